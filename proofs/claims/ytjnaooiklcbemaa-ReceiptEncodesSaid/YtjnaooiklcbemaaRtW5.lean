/-
  The walks of Issue of package receipt and of its reference. Conditions: texts of at most 100000 bytes; numbers of their kinds.
-/
import Derived.Test.YtjnaooiklcbemaaRtW3
namespace Go.Proofs.Ytjnaooiklcbemaa.Rt
open Go.RowKit Go.Proofs.Ytjnaooiklcbemaa.Mem Go.Proofs.Ytjnaooiklcbemaa.Wr Go.Proofs.Ytjnaooiklcbemaa.Dg
attribute [local go_sem ↓] exec_load_rc exec_store_rc

/-- the cells of a ticket, of which a receipt reads five. -/
def IsTk (tc : Array Value) (num game : ByteArray) (first price date : Int) : Prop :=
  ∃ y2 y3 y4 y5 y6 y10 y11 y12 y13 : Value, tc = #[.string num, .string game, y2, y3, y4, y5, y6, .int .i64 first, .int .i64 price, .int .i64 date, y10, y11, y12, y13]
/-- the receipt without a signature. -/
def bare (num game slip : ByteArray) (first price date : Int) : Rc := ⟨num, game, slip, first, price, date, 0⟩
def issued (key : Int) (num game slip : ByteArray) (first price date : Int) : Rc := (bare num game slip first price date).withSign ((bare num game slip first price date).signI key).toNat

set_option maxRecDepth 100000 in
set_option maxHeartbeats 4000000 in
theorem issue_any (key : Int) (num game slip : ByteArray) (first price date : Int) (tc : Array Value) (w : World) (hk : U64 key) (ht : IsTk tc num game first price date) (hl : (bare num game slip first price date).lim) (ho : (bare num game slip first price date).ok) :
    Calls Try.prog 16 #[.int .u64 key, .agg tc, .string slip] w (Ret (.agg (issued key num game slip first price date).cells) w) := by
  obtain ⟨n, hn⟩ := nat_of (signI_u64 key (bare num game slip first price date))
  have HI : Hid ((issued key num game slip first price date).cells = #[.string num, .string game, .string slip, .int .i64 first, .int .i64 price, .int .i64 date, .int .u64 (n : Int)]) := by
    show _ = _
    unfold issued
    rw [hn, Int.toNat_natCast]
    rfl
  have CS : Hid (∀ W, Calls Try.prog 12 #[.int .u64 key, .agg #[.string num, .string game, .string slip, .int .i64 first, .int .i64 price, .int .i64 date, .int .u64 0]] W (Ret (.int .u64 (n : Int)) W)) := by
    intro W
    have := sign_any key (bare num game slip first price date) W hk hl ho
    rw [hn] at this
    exact this
  obtain ⟨y2, y3, y4, y5, y6, y10, y11, y12, y13, rfl⟩ := ht
  have hn2 : Blk (((w.alloc (.cells #[.string num, .string game, y2, y3, y4, y5, y6, .int .i64 first, .int .i64 price, .int .i64 date, y10, y11, y12, y13] 35)).alloc (.cells #[.string ⟨#[]⟩, .string ⟨#[]⟩, .string ⟨#[]⟩, .int .i64 0, .int .i64 0, .int .i64 0, .int .u64 0] 24)).alloc (.cells #[.string ⟨#[]⟩, .string ⟨#[]⟩, .string ⟨#[]⟩, .int .i64 0, .int .i64 0, .int .i64 0, .int .u64 0] 24)) (w.heap.size + 2) 24 #[.string ⟨#[]⟩, .string ⟨#[]⟩, .string ⟨#[]⟩, .int .i64 0, .int .i64 0, .int .i64 0, .int .u64 0] := by
    have := Blk.new ((w.alloc (.cells #[.string num, .string game, y2, y3, y4, y5, y6, .int .i64 first, .int .i64 price, .int .i64 date, y10, y11, y12, y13] 35)).alloc (.cells #[.string ⟨#[]⟩, .string ⟨#[]⟩, .string ⟨#[]⟩, .int .i64 0, .int .i64 0, .int .i64 0, .int .u64 0] 24)) 24 #[.string ⟨#[]⟩, .string ⟨#[]⟩, .string ⟨#[]⟩, .int .i64 0, .int .i64 0, .int .i64 0, .int .u64 0]
    simpa using this
  have hn1 : Blk (((w.alloc (.cells #[.string num, .string game, y2, y3, y4, y5, y6, .int .i64 first, .int .i64 price, .int .i64 date, y10, y11, y12, y13] 35)).alloc (.cells #[.string ⟨#[]⟩, .string ⟨#[]⟩, .string ⟨#[]⟩, .int .i64 0, .int .i64 0, .int .i64 0, .int .u64 0] 24)).alloc (.cells #[.string ⟨#[]⟩, .string ⟨#[]⟩, .string ⟨#[]⟩, .int .i64 0, .int .i64 0, .int .i64 0, .int .u64 0] 24)) (w.heap.size + 1) 24 #[.string ⟨#[]⟩, .string ⟨#[]⟩, .string ⟨#[]⟩, .int .i64 0, .int .i64 0, .int .i64 0, .int .u64 0] := by
    have := (Blk.new (w.alloc (.cells #[.string num, .string game, y2, y3, y4, y5, y6, .int .i64 first, .int .i64 price, .int .i64 date, y10, y11, y12, y13] 35)) 24 #[.string ⟨#[]⟩, .string ⟨#[]⟩, .string ⟨#[]⟩, .int .i64 0, .int .i64 0, .int .i64 0, .int .u64 0]).alloc (.cells #[.string ⟨#[]⟩, .string ⟨#[]⟩, .string ⟨#[]⟩, .int .i64 0, .int .i64 0, .int .i64 0, .int .u64 0] 24)
    simpa using this
  have st := store_rc (cs := #[.string num, .string game, .string slip, .int .i64 first, .int .i64 price, .int .i64 date, .int .u64 0]) hn2 rfl rfl rfl
  obtain ⟨W, hW⟩ : ∃ W, W = World.setRow (((w.alloc (.cells #[.string num, .string game, y2, y3, y4, y5, y6, .int .i64 first, .int .i64 price, .int .i64 date, y10, y11, y12, y13] 35)).alloc (.cells #[.string ⟨#[]⟩, .string ⟨#[]⟩, .string ⟨#[]⟩, .int .i64 0, .int .i64 0, .int .i64 0, .int .u64 0] 24)).alloc (.cells #[.string ⟨#[]⟩, .string ⟨#[]⟩, .string ⟨#[]⟩, .int .i64 0, .int .i64 0, .int .i64 0, .int .u64 0] 24)) (w.heap.size + 2) #[.string num, .string game, .string slip, .int .i64 first, .int .i64 price, .int .i64 date, .int .u64 0] := ⟨_, rfl⟩
  have K2 : Hid (Blk W (w.heap.size + 2) 24 #[.string num, .string game, .string slip, .int .i64 first, .int .i64 price, .int .i64 date, .int .u64 0]) := by rw [hW]; exact Blk_setRow hn2 _
  have K1 : Hid (Blk W (w.heap.size + 1) 24 #[.string ⟨#[]⟩, .string ⟨#[]⟩, .string ⟨#[]⟩, .int .i64 0, .int .i64 0, .int .i64 0, .int .u64 0]) := by rw [hW]; exact hn1.frm (frm_setRow _ _ _) (fun e => by omega)
  have BE : Hid (Below w.heap.size w W) := by
    rw [hW]
    exact ((((Below.refl _ w).alloc (Nat.le_refl _) _).alloc (by simp) _).alloc (by simp; omega) _).trans ((frm_setRow _ _ _).below (by simp; omega) (fun i hi e => by omega))
  rw [← hW] at st
  have l0 := load_rc K2.out rfl
  clear hn2 hn1 hW hk hl ho hn
  go_enter Try.func16, Try.ntmps16
  go_wp2_with fail
  refine (CS.out _).mono ?_
  rintro e w1 ⟨rfl, b1⟩
  have k2 : Blk w1 (w.heap.size + 2) 24 #[.string num, .string game, .string slip, .int .i64 first, .int .i64 price, .int .i64 date, .int .u64 0] := K2.out.below b1 K2.out.lt
  have k1 : Blk w1 (w.heap.size + 1) 24 #[.string ⟨#[]⟩, .string ⟨#[]⟩, .string ⟨#[]⟩, .int .i64 0, .int .i64 0, .int .i64 0, .int .u64 0] := K1.out.below b1 K1.out.lt
  have q6 : w1.cell? ⟨w.heap.size + 2, 6, none⟩ = some (.int .u64 0) := k2.cell 6
  have z6 : w1.frozen? ⟨w.heap.size + 2, 6, none⟩ = false := k2.frozen 6
  have BE1 : Hid (Below w.heap.size w (w1.setCell ⟨w.heap.size + 2, 6, none⟩ (.int .u64 (n : Int)))) := (BE.out.trans (b1.mono BE.out.size)).setCell (by show w.heap.size ≤ w.heap.size + 2; omega) _
  have k2' : Blk (w1.setCell ⟨w.heap.size + 2, 6, none⟩ (.int .u64 (n : Int))) (w.heap.size + 2) 24 #[.string num, .string game, .string slip, .int .i64 first, .int .i64 price, .int .i64 date, .int .u64 (n : Int)] := k2.put 6 (.int .u64 (n : Int))
  have k1' : Blk (w1.setCell ⟨w.heap.size + 2, 6, none⟩ (.int .u64 (n : Int))) (w.heap.size + 1) 24 #[.string ⟨#[]⟩, .string ⟨#[]⟩, .string ⟨#[]⟩, .int .i64 0, .int .i64 0, .int .i64 0, .int .u64 0] := k1.far (p := ⟨w.heap.size + 2, 6, none⟩) (by show w.heap.size + 1 ≠ w.heap.size + 2; omega) _
  have l1 := load_rc k2' rfl
  have st1 := store_rc (cs := #[.string num, .string game, .string slip, .int .i64 first, .int .i64 price, .int .i64 date, .int .u64 (n : Int)]) k1' rfl rfl rfl
  have KF : Hid (Blk ((w1.setCell ⟨w.heap.size + 2, 6, none⟩ (.int .u64 (n : Int))).setRow (w.heap.size + 1) #[.string num, .string game, .string slip, .int .i64 first, .int .i64 price, .int .i64 date, .int .u64 (n : Int)]) (w.heap.size + 1) 24 #[.string num, .string game, .string slip, .int .i64 first, .int .i64 price, .int .i64 date, .int .u64 (n : Int)]) := Blk_setRow k1' _
  have BF : Hid (Below w.heap.size w ((w1.setCell ⟨w.heap.size + 2, 6, none⟩ (.int .u64 (n : Int))).setRow (w.heap.size + 1) #[.string num, .string game, .string slip, .int .i64 first, .int .i64 price, .int .i64 date, .int .u64 (n : Int)])) := BE1.out.trans ((frm_setRow _ _ _).below BE1.out.size (fun i hi e => by omega))
  clear st l0 b1 k2 k1 k2' k1'
  go_wp2_with fail
  exact ret_rc Try.results16 rfl rfl KF.out rfl ⟨by rw [HI.out], BF.out⟩

set_option maxRecDepth 100000 in
set_option maxHeartbeats 4000000 in
theorem issueR_any (key : Int) (num game slip : ByteArray) (first price date : Int) (tc : Array Value) (w : World) (hk : U64 key) (ht : IsTk tc num game first price date) (hl : (bare num game slip first price date).lim) (ho : (bare num game slip first price date).ok) :
    Calls Try.prog 17 #[.int .u64 key, .agg tc, .string slip] w (Ret (.agg (issued key num game slip first price date).cells) w) := by
  obtain ⟨n, hn⟩ := nat_of (signI_u64 key (bare num game slip first price date))
  have HI : Hid ((issued key num game slip first price date).cells = #[.string num, .string game, .string slip, .int .i64 first, .int .i64 price, .int .i64 date, .int .u64 (n : Int)]) := by
    show _ = _
    unfold issued
    rw [hn, Int.toNat_natCast]
    rfl
  have CS : Hid (∀ W, Calls Try.prog 13 #[.int .u64 key, .agg #[.string num, .string game, .string slip, .int .i64 first, .int .i64 price, .int .i64 date, .int .u64 0]] W (Ret (.int .u64 (n : Int)) W)) := by
    intro W
    have := signR_any key (bare num game slip first price date) W hk hl ho
    rw [hn] at this
    exact this
  obtain ⟨y2, y3, y4, y5, y6, y10, y11, y12, y13, rfl⟩ := ht
  have hn2 : Blk (((w.alloc (.cells #[.string num, .string game, y2, y3, y4, y5, y6, .int .i64 first, .int .i64 price, .int .i64 date, y10, y11, y12, y13] 35)).alloc (.cells #[.string ⟨#[]⟩, .string ⟨#[]⟩, .string ⟨#[]⟩, .int .i64 0, .int .i64 0, .int .i64 0, .int .u64 0] 24)).alloc (.cells #[.string ⟨#[]⟩, .string ⟨#[]⟩, .string ⟨#[]⟩, .int .i64 0, .int .i64 0, .int .i64 0, .int .u64 0] 24)) (w.heap.size + 2) 24 #[.string ⟨#[]⟩, .string ⟨#[]⟩, .string ⟨#[]⟩, .int .i64 0, .int .i64 0, .int .i64 0, .int .u64 0] := by
    have := Blk.new ((w.alloc (.cells #[.string num, .string game, y2, y3, y4, y5, y6, .int .i64 first, .int .i64 price, .int .i64 date, y10, y11, y12, y13] 35)).alloc (.cells #[.string ⟨#[]⟩, .string ⟨#[]⟩, .string ⟨#[]⟩, .int .i64 0, .int .i64 0, .int .i64 0, .int .u64 0] 24)) 24 #[.string ⟨#[]⟩, .string ⟨#[]⟩, .string ⟨#[]⟩, .int .i64 0, .int .i64 0, .int .i64 0, .int .u64 0]
    simpa using this
  have hn1 : Blk (((w.alloc (.cells #[.string num, .string game, y2, y3, y4, y5, y6, .int .i64 first, .int .i64 price, .int .i64 date, y10, y11, y12, y13] 35)).alloc (.cells #[.string ⟨#[]⟩, .string ⟨#[]⟩, .string ⟨#[]⟩, .int .i64 0, .int .i64 0, .int .i64 0, .int .u64 0] 24)).alloc (.cells #[.string ⟨#[]⟩, .string ⟨#[]⟩, .string ⟨#[]⟩, .int .i64 0, .int .i64 0, .int .i64 0, .int .u64 0] 24)) (w.heap.size + 1) 24 #[.string ⟨#[]⟩, .string ⟨#[]⟩, .string ⟨#[]⟩, .int .i64 0, .int .i64 0, .int .i64 0, .int .u64 0] := by
    have := (Blk.new (w.alloc (.cells #[.string num, .string game, y2, y3, y4, y5, y6, .int .i64 first, .int .i64 price, .int .i64 date, y10, y11, y12, y13] 35)) 24 #[.string ⟨#[]⟩, .string ⟨#[]⟩, .string ⟨#[]⟩, .int .i64 0, .int .i64 0, .int .i64 0, .int .u64 0]).alloc (.cells #[.string ⟨#[]⟩, .string ⟨#[]⟩, .string ⟨#[]⟩, .int .i64 0, .int .i64 0, .int .i64 0, .int .u64 0] 24)
    simpa using this
  have st := store_rc (cs := #[.string num, .string game, .string slip, .int .i64 first, .int .i64 price, .int .i64 date, .int .u64 0]) hn2 rfl rfl rfl
  obtain ⟨W, hW⟩ : ∃ W, W = World.setRow (((w.alloc (.cells #[.string num, .string game, y2, y3, y4, y5, y6, .int .i64 first, .int .i64 price, .int .i64 date, y10, y11, y12, y13] 35)).alloc (.cells #[.string ⟨#[]⟩, .string ⟨#[]⟩, .string ⟨#[]⟩, .int .i64 0, .int .i64 0, .int .i64 0, .int .u64 0] 24)).alloc (.cells #[.string ⟨#[]⟩, .string ⟨#[]⟩, .string ⟨#[]⟩, .int .i64 0, .int .i64 0, .int .i64 0, .int .u64 0] 24)) (w.heap.size + 2) #[.string num, .string game, .string slip, .int .i64 first, .int .i64 price, .int .i64 date, .int .u64 0] := ⟨_, rfl⟩
  have K2 : Hid (Blk W (w.heap.size + 2) 24 #[.string num, .string game, .string slip, .int .i64 first, .int .i64 price, .int .i64 date, .int .u64 0]) := by rw [hW]; exact Blk_setRow hn2 _
  have K1 : Hid (Blk W (w.heap.size + 1) 24 #[.string ⟨#[]⟩, .string ⟨#[]⟩, .string ⟨#[]⟩, .int .i64 0, .int .i64 0, .int .i64 0, .int .u64 0]) := by rw [hW]; exact hn1.frm (frm_setRow _ _ _) (fun e => by omega)
  have BE : Hid (Below w.heap.size w W) := by
    rw [hW]
    exact ((((Below.refl _ w).alloc (Nat.le_refl _) _).alloc (by simp) _).alloc (by simp; omega) _).trans ((frm_setRow _ _ _).below (by simp; omega) (fun i hi e => by omega))
  rw [← hW] at st
  have l0 := load_rc K2.out rfl
  clear hn2 hn1 hW hk hl ho hn
  go_enter Try.func17, Try.ntmps17
  go_wp2_with fail
  refine (CS.out _).mono ?_
  rintro e w1 ⟨rfl, b1⟩
  have k2 : Blk w1 (w.heap.size + 2) 24 #[.string num, .string game, .string slip, .int .i64 first, .int .i64 price, .int .i64 date, .int .u64 0] := K2.out.below b1 K2.out.lt
  have k1 : Blk w1 (w.heap.size + 1) 24 #[.string ⟨#[]⟩, .string ⟨#[]⟩, .string ⟨#[]⟩, .int .i64 0, .int .i64 0, .int .i64 0, .int .u64 0] := K1.out.below b1 K1.out.lt
  have q6 : w1.cell? ⟨w.heap.size + 2, 6, none⟩ = some (.int .u64 0) := k2.cell 6
  have z6 : w1.frozen? ⟨w.heap.size + 2, 6, none⟩ = false := k2.frozen 6
  have BE1 : Hid (Below w.heap.size w (w1.setCell ⟨w.heap.size + 2, 6, none⟩ (.int .u64 (n : Int)))) := (BE.out.trans (b1.mono BE.out.size)).setCell (by show w.heap.size ≤ w.heap.size + 2; omega) _
  have k2' : Blk (w1.setCell ⟨w.heap.size + 2, 6, none⟩ (.int .u64 (n : Int))) (w.heap.size + 2) 24 #[.string num, .string game, .string slip, .int .i64 first, .int .i64 price, .int .i64 date, .int .u64 (n : Int)] := k2.put 6 (.int .u64 (n : Int))
  have k1' : Blk (w1.setCell ⟨w.heap.size + 2, 6, none⟩ (.int .u64 (n : Int))) (w.heap.size + 1) 24 #[.string ⟨#[]⟩, .string ⟨#[]⟩, .string ⟨#[]⟩, .int .i64 0, .int .i64 0, .int .i64 0, .int .u64 0] := k1.far (p := ⟨w.heap.size + 2, 6, none⟩) (by show w.heap.size + 1 ≠ w.heap.size + 2; omega) _
  have l1 := load_rc k2' rfl
  have st1 := store_rc (cs := #[.string num, .string game, .string slip, .int .i64 first, .int .i64 price, .int .i64 date, .int .u64 (n : Int)]) k1' rfl rfl rfl
  have KF : Hid (Blk ((w1.setCell ⟨w.heap.size + 2, 6, none⟩ (.int .u64 (n : Int))).setRow (w.heap.size + 1) #[.string num, .string game, .string slip, .int .i64 first, .int .i64 price, .int .i64 date, .int .u64 (n : Int)]) (w.heap.size + 1) 24 #[.string num, .string game, .string slip, .int .i64 first, .int .i64 price, .int .i64 date, .int .u64 (n : Int)]) := Blk_setRow k1' _
  have BF : Hid (Below w.heap.size w ((w1.setCell ⟨w.heap.size + 2, 6, none⟩ (.int .u64 (n : Int))).setRow (w.heap.size + 1) #[.string num, .string game, .string slip, .int .i64 first, .int .i64 price, .int .i64 date, .int .u64 (n : Int)])) := BE1.out.trans ((frm_setRow _ _ _).below BE1.out.size (fun i hi e => by omega))
  clear st l0 b1 k2 k1 k2' k1'
  go_wp2_with fail
  exact ret_rc Try.results17 rfl rfl KF.out rfl ⟨by rw [HI.out], BF.out⟩
end Go.Proofs.Ytjnaooiklcbemaa.Rt
