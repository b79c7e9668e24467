/-
  The walks of wire's Reader, second part: ready, Uint, unzigzag, Int, Left, Err. Conditions: the reader's block and its bytes lie in memory.
-/
import Derived.Test.YthpmngdpgniehaaWrR
namespace Go.Proofs.Ythpmngdpgniehaa.Wr
open Go.RowKit Go.Proofs.Ythpmngdpgniehaa.Mem

/-- block p is a reader (a struct of type T) of the bytes bs, which lie at A, in the state s. -/
def Rd (T : TypeId) (w : World) (p : Nat) (A : Option Addr) (bs : List UInt8) (s : RS) : Prop :=
  (∃ c, Blk w p T #[.slice A bs.length c, .int .i64 (s.pos : Int), .int .i64 s.err] ∧ bs.length ≤ c ∧ c ≤ 9223372036854775807) ∧ Sl w 1 A bs.length (byts bs) ∧ (∀ a, A = some a → a.block ≠ p ∧ a.block < w.heap.size) ∧ s.ok bs ∧ bs.length ≤ 100000000000
/-- the blocks of a reader. -/
def rown (p : Nat) (A : Option Addr) (k : Nat) : Prop := k = p ∨ ∃ a, A = some a ∧ a.block = k
def RdPost (T : TypeId) (p : Nat) (A : Option Addr) (bs : List UInt8) (v : Value) (s : RS) (w : World) (e : Ending) (w' : World) : Prop :=
  e = .returned v ∧ Rd T w' p A bs s ∧ Frm (· = p) w w'
theorem size_setCell (w : World) (a : Addr) (u : Value) : (w.setCell a u).heap.size = w.heap.size := by simp [World.setCell]
section
variable {T : TypeId} {w w' : World} {p : Nat} {A : Option Addr} {bs : List UInt8} {s : RS}
theorem Rd.drewN (h : Rd T w p A bs s) (n : Nat) : Rd T (w.drewN n) p A bs s := h
theorem Rd.keep {F : Nat → Prop} (h : Rd T w p A bs s) (hf : Frm F w w') (hn : ∀ k, rown p A k → ¬ F k) : Rd T w' p A bs s := by
  obtain ⟨⟨c, hb, hcc⟩, hs, ha, hk⟩ := h
  exact ⟨⟨c, hb.frm hf (hn p (.inl rfl)), hcc⟩, hs.frm hf fun a e => hn _ (.inr ⟨a, e, rfl⟩), fun a e => ⟨(ha a e).1, Nat.lt_of_lt_of_le (ha a e).2 hf.size⟩, hk⟩
theorem Rd.put_err {e : Int} (h : Rd T w p A bs s) (hk : (⟨s.pos, e⟩ : RS).ok bs) : Rd T (w.setCell ⟨p, 2, none⟩ (.int .i64 e)) p A bs ⟨s.pos, e⟩ := by
  obtain ⟨⟨c, hb, hcc⟩, hs, ha, _, hl⟩ := h
  exact ⟨⟨c, hb.put 2 _, hcc⟩, hs.frm ((Frm.refl (· = p) w).setCell (fun _ => rfl) _) (fun a e => (ha a e).1), fun a e => ⟨(ha a e).1, by rw [size_setCell]; exact (ha a e).2⟩, hk, hl⟩
theorem Rd.put_pos {q : Nat} (h : Rd T w p A bs s) (hk : (⟨q, s.err⟩ : RS).ok bs) : Rd T (w.setCell ⟨p, 1, none⟩ (.int .i64 (q : Int))) p A bs ⟨q, s.err⟩ := by
  obtain ⟨⟨c, hb, hcc⟩, hs, ha, _, hl⟩ := h
  exact ⟨⟨c, hb.put 1 _, hcc⟩, hs.frm ((Frm.refl (· = p) w).setCell (fun _ => rfl) _) (fun a e => (ha a e).1), fun a e => ⟨(ha a e).1, by rw [size_setCell]; exact (ha a e).2⟩, hk, hl⟩
theorem Rd.rown_lt (h : Rd T w p A bs s) {k : Nat} (hk : rown p A k) : k < w.heap.size := by
  obtain ⟨⟨c, hb, _⟩, _, ha, _⟩ := h
  rcases hk with rfl | ⟨a, e, rfl⟩
  · exact hb.lt
  · exact (ha a e).2
theorem Rd.below (h : Rd T w p A bs s) (hb : Below w.heap.size w w') : Rd T w' p A bs s := h.keep (F := fun _ => False) (Frm.of_below hb fun i hi hg => by omega) fun _ _ g => g
theorem Rd.ok (h : Rd T w p A bs s) : s.ok bs := h.2.2.2.1
theorem Rd.len (h : Rd T w p A bs s) : bs.length ≤ 100000000000 := h.2.2.2.2
theorem frm_err (p : Nat) (w : World) (n o : Nat) (u : Value) : Frm (· = p) w ((w.drewN n).setCell ⟨p, o, none⟩ u) := ((Frm.refl (· = p) w).drewN n).setCell (fun _ => rfl) _
theorem Rd.lt (h : Rd T w p A bs s) : p < w.heap.size := by obtain ⟨⟨c, hb, _⟩, _⟩ := h; exact hb.lt
end
theorem quiet_left {P : Program} {f : FuncId} {args : Array Value} {w : World} {n : Nat} {v : Value}
    (h : Calls P f args (w.drewN n) fun e w' => e = .returned v ∧ w.drewN n = w') : Calls P f args (w.drewN n) fun e w'' => e = .returned v ∧ ∃ m, w'' = w.drewN m :=
  h.mono fun _ _ ⟨he, hm⟩ => ⟨he, n, hm.symm⟩

theorem ready_yes (p : Nat) (w : World) (h : w.cell? ⟨p, 2, none⟩ = some (.int .i64 0)) :
    Calls Try.prog 83 #[.pointer (some ⟨p, 0, none⟩)] w fun e w' => e = .returned (.bool true) ∧ w = w' := by
  go_enter Try.func83, Try.ntmps83
  go_wp2
  go_ret
  exact ⟨rfl, rfl⟩
theorem ready_no (p : Nat) (w : World) (x : Int) (h : w.cell? ⟨p, 2, none⟩ = some (.int .i64 x)) (hx : (x == 0) = false) :
    Calls Try.prog 83 #[.pointer (some ⟨p, 0, none⟩)] w fun e w' => e = .returned (.bool false) ∧ w = w' := by
  go_enter Try.func83, Try.ntmps83
  go_wp2
  go_ret
  exact ⟨rfl, rfl⟩
theorem Rd.err_cell {T : TypeId} {w : World} {p : Nat} {A : Option Addr} {bs : List UInt8} {s : RS} (h : Rd T w p A bs s) : w.cell? ⟨p, 2, none⟩ = some (.int .i64 s.err) := by
  obtain ⟨⟨c, hb, _⟩, _⟩ := h
  exact hb.cell 2
/-- whether a reader goes on: by its state. -/
theorem ready_of {w : World} {p : Nat} {A : Option Addr} {bs : List UInt8} {s : RS} (h : Rd 99 w p A bs s) (b : Bool) (hb : (s.err == 0) = b) :
    Calls Try.prog 83 #[.pointer (some ⟨p, 0, none⟩)] w fun e w' => e = .returned (.bool b) ∧ w = w' := by
  have hc := h.err_cell
  cases b with
  | false => exact ready_no p w _ hc hb
  | true =>
    have e : s.err = 0 := by simpa using hb
    rw [e] at hc
    exact ready_yes p w hc

set_option maxRecDepth 100000 in
set_option maxHeartbeats 2000000 in
theorem ruint_shut (p : Nat) (A : Option Addr) (bs : List UInt8) (s : RS) (w : World) (h : Rd 99 w p A bs s) (he : (s.err == 0) = false) :
    Calls Try.prog 59 #[.pointer (some ⟨p, 0, none⟩)] w (RdPost 99 p A bs (.int .u64 0) s w) := by
  have H := Lib.hid h
  have HE := Lib.hid he
  clear h he
  go_enter Try.func59, Try.ntmps59
  go_wp2_with fail
  refine (ready_of H.out false HE.out).mono ?_
  rintro e w' ⟨rfl, rfl⟩
  go_wp2_with fail
  go_ret
  exact ⟨rfl, H.out, Frm.refl _ _⟩

set_option maxRecDepth 100000 in
set_option maxHeartbeats 2000000 in
theorem ruint_err (p : Nat) (A : Option Addr) (bs : List UInt8) (s : RS) (w : World) (x : Int) (h : Rd 99 w p A bs s) (he : s.err = 0) (hv : vt 0 (bs.drop s.pos) = .error x) :
    Calls Try.prog 59 #[.pointer (some ⟨p, 0, none⟩)] w (RdPost 99 p A bs (.int .u64 0) ⟨s.pos, x⟩ w) := by
  have hx := vt_err _ _ _ hv
  have tx : (x != 0) = true := by simp; omega
  have H := Lib.hid h
  have hk : (⟨s.pos, x⟩ : RS).ok bs := ⟨h.ok.1, by show 0 ≤ x; omega, by show x ≤ 32; omega⟩
  have HK := Lib.hid hk
  have HE : Hid ((s.err == 0) = true) := by show _ = _; simpa using he
  obtain ⟨⟨c, hb, _⟩, hs, ha, hok, hl⟩ := h
  have q0 : w.cell? ⟨p, 0, none⟩ = some (.slice A bs.length c) := hb.cell 0
  have q1 : w.cell? ⟨p, 1, none⟩ = some (.int .i64 (s.pos : Int)) := hb.cell 1
  have q2 : w.cell? ⟨p, 2, none⟩ = some (.int .i64 s.err) := hb.cell 2
  have f2 := hb.frozen 2
  have hle := hok.1
  have CV : Hid (∀ n, Calls Try.prog 87 #[.slice A bs.length c, .int .i64 (s.pos : Int)] (w.drewN n) fun e w' => e = .returned (.tuple #[.int .u64 0, .int .i64 0, .int .i64 x]) ∧ w.drewN n = w') := fun n =>
    (varint_any bs s.pos bs.length c A (w.drewN n) hs hle hl).mono fun e w' ⟨h1, h2⟩ => ⟨by rw [h1]; unfold vres; rw [hv], h2⟩
  clear hb hs ha hok hv hx hk he hl
  go_enter Try.func59, Try.ntmps59
  go_wp2_with fail
  refine (ready_of H.out true HE.out).mono ?_
  rintro e w' ⟨rfl, rfl⟩
  go_wp2_with fail
  go_quiet ((go_at_call 87; exact quiet_left (CV.out _)))
  go_wp2_with fail
  go_ret
  exact ⟨rfl, (H.out.drewN _).put_err HK.out, frm_err _ _ _ _ _⟩

set_option maxRecDepth 100000 in
set_option maxHeartbeats 2000000 in
theorem ruint_ok (p : Nat) (A : Option Addr) (bs : List UInt8) (s : RS) (w : World) (v k : Nat) (h : Rd 99 w p A bs s) (he : s.err = 0) (hv : vt 0 (bs.drop s.pos) = .ok (v, k)) :
    Calls Try.prog 59 #[.pointer (some ⟨p, 0, none⟩)] w (RdPost 99 p A bs (.int .u64 (v : Int)) ⟨s.pos + k, s.err⟩ w) := by
  obtain ⟨a1, a2, _, _, _⟩ := vt_bound _ 0 v k (by omega) hv
  rw [List.length_drop] at a2
  have H := Lib.hid h
  have HK : Hid ((⟨s.pos + k, s.err⟩ : RS).ok bs) := ⟨by have := h.ok.1; show s.pos + k ≤ _; omega, h.ok.2⟩
  have HE : Hid ((s.err == 0) = true) := by show _ = _; simpa using he
  obtain ⟨⟨c, hb, _⟩, hs, ha, hok, hl⟩ := h
  have q0 : w.cell? ⟨p, 0, none⟩ = some (.slice A bs.length c) := hb.cell 0
  have q1 : w.cell? ⟨p, 1, none⟩ = some (.int .i64 (s.pos : Int)) := hb.cell 1
  have q2 : w.cell? ⟨p, 2, none⟩ = some (.int .i64 s.err) := hb.cell 2
  have f1 := hb.frozen 1
  have hle := hok.1
  have CV : Hid (∀ n, Calls Try.prog 87 #[.slice A bs.length c, .int .i64 (s.pos : Int)] (w.drewN n) fun e w' => e = .returned (.tuple #[.int .u64 (v : Int), .int .i64 ((s.pos + k : Nat) : Int), .int .i64 0]) ∧ w.drewN n = w') := fun n =>
    (varint_any bs s.pos bs.length c A (w.drewN n) hs hle hl).mono fun e w' ⟨h1, h2⟩ => ⟨by rw [h1]; unfold vres; rw [hv], h2⟩
  generalize s.pos + k = m at *
  clear hb hs ha hok hv he hl a2
  go_enter Try.func59, Try.ntmps59
  go_wp2_with fail
  refine (ready_of H.out true HE.out).mono ?_
  rintro e w' ⟨rfl, rfl⟩
  go_wp2_with fail
  go_quiet ((go_at_call 87; exact quiet_left (CV.out _)))
  go_wp2_with fail
  go_ret
  exact ⟨rfl, (H.out.drewN _).put_pos HK.out, frm_err _ _ _ _ _⟩

theorem ruint_any (p : Nat) (A : Option Addr) (bs : List UInt8) (s : RS) (w : World) (h : Rd 99 w p A bs s) :
    Calls Try.prog 59 #[.pointer (some ⟨p, 0, none⟩)] w (RdPost 99 p A bs (.int .u64 ((rU bs s).1 : Int)) (rU bs s).2 w) := by
  by_cases he : s.err = 0
  · cases hv : vt 0 (bs.drop s.pos) with
    | error x => rw [rU_err he hv]; exact ruint_err p A bs s w x h he hv
    | ok q =>
      obtain ⟨v, k⟩ := q
      rw [rU_ok he hv]
      have := ruint_ok p A bs s w v k h he hv
      rw [he] at this
      exact this
  · rw [rU_shut he]
    exact ruint_shut p A bs s w h (by simpa using he)
end Go.Proofs.Ythpmngdpgniehaa.Wr
