/-
  The reference's writer: putPart, for every kind.
-/
import Derived.Test.YtffcepaegcllmaaDoorWrR
import Derived.Deep.CutBlock
namespace Go.Proofs.YtffcepaegcllmaaDoor
open Go.RowKit
theorem PutBytes_b {base B m cap : Nat} {A : Option Addr} {v : Value} {bs t : List UInt8} {w : World} (hown : w.ownsRow base 5 1 v bs.length (bvs bs)) (hb0 : base ≤ w.heap.size) (hr : ∀ w1, ChT [5] base w w1 → RdB w1 B A m t) (hn : bs.length + m + 100 ≤ 140737488355328) :
    Calls Tryd.prog 84 #[v, .slice A m cap] w (BtP w base (bs ++ packB t)) := by
  refine (PutBytes_any base v bs.length (bvs bs) A m cap B t w hown hb0 hr hn).mono ?_
  rintro e w' ⟨v', rfl, ho, hc⟩
  exact ⟨v', rfl, by rw [List.length_append, bvs_append]; exact ho, hc⟩
theorem putData_b {base B m cap : Nat} {A : Option Addr} {v : Value} {bs t : List UInt8} {x y z : Int} {w : World} (hown : w.ownsRow base 5 1 v bs.length (bvs bs)) (hb0 : base ≤ w.heap.size) (hr : ∀ w1, ChT [5] base w w1 → RdB w1 B A m t) (hn : bs.length + m + 200 ≤ 140737488355328)
    (hx : 0 ≤ x ∧ x ≤ 4611686018427387904) (hy : 0 ≤ y ∧ y ≤ 4611686018427387904) (hz : 0 ≤ z ∧ z ≤ 4611686018427387904) :
    Calls Tryd.prog 85 #[v, .agg #[.int .i64 x, .int .i64 y, .int .i64 z, .slice A m cap]] w (BtP w base (bs ++ packD x y z t)) := by
  obtain ⟨i, rfl⟩ : ∃ k : Nat, x = (k : Int) := ⟨x.toNat, by omega⟩
  obtain ⟨j, rfl⟩ : ∃ k : Nat, y = (k : Int) := ⟨y.toNat, by omega⟩
  obtain ⟨k, rfl⟩ : ∃ k : Nat, z = (k : Int) := ⟨z.toNat, by omega⟩
  refine (putData_any base v bs.length (bvs bs) i j k A m cap B t w hown hb0 hr hn (by omega) (by omega) (by omega)).mono ?_
  rintro e w' ⟨v', rfl, ho, hc⟩
  exact ⟨v', rfl, by rw [List.length_append, bvs_append]; exact ho, hc⟩
/-- Where the packet's lists lie, whatever the reference's writer turns. -/
abbrev InR (w : World) (base B : Nat) (p : Pk) (D : PkD) : Prop := ∀ w1, ChT [5] base w w1 → PkIn w1 B p D
theorem SlotsAt.two {w : World} {B : Nat} {b off n j : Nat} {x : Int × Int} {sl : List (Int × Int)} (h : SlotsAt w B (some ⟨b, off, none⟩) n sl) (hj : j < n) (hx : sl[j]? = some x) : w.cell? ⟨b, off + j * 2, none⟩ = some (.int .i64 x.1) ∧ w.cell? ⟨b, off + j * 2 + 1, none⟩ = some (.int .i64 x.2) := by
  obtain ⟨b', off', he, _, hc⟩ := h.2 (by omega)
  injection he with he
  injection he with h1 h2
  subst h1 h2
  exact hc j x hx
set_option maxRecDepth 100000 in
set_option maxHeartbeats 3200000 in
theorem rpart_1 {base B : Nat} {v : Value} {bs : List UInt8} {p : Pk} {D : PkD} {w : World} (hk1 : p.k = 1) (hk2 : beatB p.tk D.hears = true) (hW : w.ownsRow base 5 1 v bs.length (bvs bs)) (hb0 : base ≤ w.heap.size) (hin : InR w base B p D) (hn : bs.length ≤ 100000) :
    Calls Tryd.prog 34 #[v, .agg p.cells] w (BtP w base (bs ++ (pack [p.tk] ++ packL D.hears))) := by
  have hv : cntB p.tk 0 = true ∧ allB D.hears = true ∧ D.hears.length ≤ 16 := by
    simp only [beatB, countsB, Bool.and_eq_true, decide_eq_true_eq] at hk2
    exact ⟨hk2.1, hk2.2.1.1, hk2.2.2⟩
  have HV := Lib.hid hv
  have HIN := Lib.hid hin
  obtain ⟨wa, hwa⟩ : ∃ wa, wa = w.alloc (.cells p.cells 45) := ⟨_, rfl⟩
  have HA : Hid (Below w.heap.size w wa ∧ Blk wa w.heap.size 45 p.cells) := Lib.hid ⟨by rw [hwa]; exact one_box _ _, by rw [hwa]; exact Blk.new _ _ _⟩
  have c0 : wa.cell? ⟨w.heap.size, 0, none⟩ = some (.int .i64 1) := by rw [HA.out.2.cell]; exact congrArg (fun z => some (Value.int .i64 z)) hk1
  obtain ⟨bx, hbx⟩ : ∃ x, x = w.heap.size := ⟨_, rfl⟩
  have HS0 : Hid (wa.ownsRow base 5 1 v bs.length (bvs bs) ∧ ChT [5] base w wa ∧ base ≤ wa.heap.size ∧ Blk wa bx 45 p.cells ∧ bs.length ≤ 100000) := Lib.hid ⟨own_over hW HA.out.1, ChT.of_below HA.out.1, Nat.le_trans hb0 HA.out.1.size, hbx ▸ HA.out.2, hn⟩
  have HBX : Hid (w.heap.size = bx) := Lib.hid hbx.symm
  rw [← hbx] at c0
  clear hbx
  have HWA := Lib.hid hwa
  clear hwa hW hin hv hk2
  have c5 : wa.cell? ⟨bx, 5, none⟩ = some (.int .i64 p.tk) := HS0.out.2.2.2.1.cell 5
  have c6 : wa.cell? ⟨bx, 6, none⟩ = some (.slice p.hA p.hn p.hc) := HS0.out.2.2.2.1.cell 6
  go_enter Tryd.func34, Tryd.ntmps34
  go_upto_region 1 with fail
  rw [← HWA.out]
  rw [HBX.out]
  go_wp2_with (first | (go_at_call 82; refine (putList_b HS1.out.1 HS1.out.2.2.1 (fun w1 hc => (HIN.out w1 (HS1.out.2.1.trans hc)).rh) (by have h2 := HV.out.2.2; have h3 := (HIN.out w (ChT.refl _ _ _)).rh.lenI; omega) (by have h1 := HS1.out.2.2.2.2; omega) (all_in HV.out.2.1)).mono ?_; rintro _ y1 ⟨v1, rfl, ho1, hc1⟩; have hbk : Blk y1 bx 45 p.cells := HS1.out.2.2.2.1.cht hc1 (.inl (by decide)); have HS2 : Hid (y1.ownsRow base 5 1 v1 (((bs) ++ (pack [p.tk])) ++ (packL D.hears)).length (bvs (((bs) ++ (pack [p.tk])) ++ (packL D.hears))) ∧ ChT [5] base w y1 ∧ base ≤ y1.heap.size ∧ Blk y1 bx 45 p.cells ∧ (((bs) ++ (pack [p.tk])) ++ (packL D.hears)).length ≤ 100162) := Lib.hid ⟨ho1, HS1.out.2.1.trans hc1, Nat.le_trans HS1.out.2.2.1 (ChT.size hc1), hbk, packL_len (k := 16) HS1.out.2.2.2.2 HV.out.2.2⟩; clear ho1 hc1 hbk; go_simp) | (go_at_call 33; refine (put_b (x := p.tk) HS0.out.1 HS0.out.2.2.1 (by have := HS0.out.2.2.2.2; omega) (by have h1 := HV.out.1; simp [cntB] at h1; omega)).mono ?_; rintro _ y0 ⟨v0, rfl, ho1, hc1⟩; have hbk : Blk y0 bx 45 p.cells := HS0.out.2.2.2.1.cht hc1 (.inl (by decide)); have HS1 : Hid (y0.ownsRow base 5 1 v0 ((bs) ++ (pack [p.tk])).length (bvs ((bs) ++ (pack [p.tk]))) ∧ ChT [5] base w y0 ∧ base ≤ y0.heap.size ∧ Blk y0 bx 45 p.cells ∧ ((bs) ++ (pack [p.tk])).length ≤ 100009) := Lib.hid ⟨ho1, HS0.out.2.1.trans hc1, Nat.le_trans HS0.out.2.2.1 (ChT.size hc1), hbk, pack_len (k := 1) HS0.out.2.2.2.2 (by simp)⟩; have e5 : y0.cell? ⟨bx, 5, none⟩ = some (.int .i64 p.tk) := hbk.cell 5; have e6 : y0.cell? ⟨bx, 6, none⟩ = some (.slice p.hA p.hn p.hc) := hbk.cell 6; clear ho1 hc1 hbk; go_simp))
  go_ret
  refine ⟨v1, rfl, ?_, HS2.out.2.1⟩
  have h := HS2.out.1
  simpa only [List.append_assoc] using h
set_option maxRecDepth 100000 in
set_option maxHeartbeats 3200000 in
theorem rpart_2 {base B : Nat} {v : Value} {bs : List UInt8} {p : Pk} {D : PkD} {w : World} (hk1 : p.k = 2) (hk2 : propB D.set p.cid p.rev p.top p.p1 p.p2 p.p3 p.p4 D.vec = true) (hW : w.ownsRow base 5 1 v bs.length (bvs bs)) (hb0 : base ≤ w.heap.size) (hin : InR w base B p D) (hn : bs.length ≤ 100000) :
    Calls Tryd.prog 34 #[v, .agg p.cells] w (BtP w base (bs ++ (packL D.set ++ pack [p.cid, p.rev, p.top] ++ packI p.p1 p.p2 p.p3 p.p4 ++ packL D.vec))) := by
  have hv : allB D.set = true ∧ D.set.length ≤ 16 ∧ allB D.vec = true ∧ D.vec.length ≤ 16 ∧ cntB p.cid 1 = true ∧ cntB p.rev 1 = true ∧ cntB p.top 0 = true ∧ (wholeB p.p1 p.p2 p.p3 p.p4 = true ∨ noneB p.p1 p.p2 p.p3 p.p4 = true) := by
    simp only [propB, countsB, Bool.and_eq_true, Bool.or_eq_true, decide_eq_true_eq] at hk2
    obtain ⟨⟨⟨⟨⟨⟨⟨h1, h2⟩, _⟩, _⟩, h5⟩, h6⟩, h7⟩, h8⟩ := hk2
    exact ⟨h1.1.1, h1.2, h2.1.1, h2.2, h5, h6, h7, h8⟩
  have HV := Lib.hid hv
  have HIN := Lib.hid hin
  obtain ⟨wa, hwa⟩ : ∃ wa, wa = w.alloc (.cells p.cells 45) := ⟨_, rfl⟩
  have HA : Hid (Below w.heap.size w wa ∧ Blk wa w.heap.size 45 p.cells) := Lib.hid ⟨by rw [hwa]; exact one_box _ _, by rw [hwa]; exact Blk.new _ _ _⟩
  have c0 : wa.cell? ⟨w.heap.size, 0, none⟩ = some (.int .i64 2) := by rw [HA.out.2.cell]; exact congrArg (fun z => some (Value.int .i64 z)) hk1
  obtain ⟨wb, hwb⟩ : ∃ x, x = wa.alloc (.cells #[.slice p.pA p.pn p.pc, .int .i64 p.cid, .int .i64 p.rev, .int .i64 p.top, .int .i64 p.p1, .int .i64 p.p2, .int .i64 p.p3, .int .i64 p.p4, .slice p.vA p.vn p.vc] 30) := ⟨_, rfl⟩
  obtain ⟨bx, hbx⟩ : ∃ x, x = wa.heap.size := ⟨_, rfl⟩
  have HWB : Hid (wa.alloc (.cells #[.slice p.pA p.pn p.pc, .int .i64 p.cid, .int .i64 p.rev, .int .i64 p.top, .int .i64 p.p1, .int .i64 p.p2, .int .i64 p.p3, .int .i64 p.p4, .slice p.vA p.vn p.vc] 30) = wb ∧ wa.heap.size = bx) := Lib.hid ⟨hwb.symm, hbx.symm⟩
  have HB2 : Hid (Below wa.heap.size wa wb ∧ Blk wb bx 30 #[.slice p.pA p.pn p.pc, .int .i64 p.cid, .int .i64 p.rev, .int .i64 p.top, .int .i64 p.p1, .int .i64 p.p2, .int .i64 p.p3, .int .i64 p.p4, .slice p.vA p.vn p.vc]) := Lib.hid ⟨by rw [hwb]; exact one_box _ _, by rw [hwb, hbx]; exact Blk.new _ _ _⟩
  have HS0 : Hid (wb.ownsRow base 5 1 v bs.length (bvs bs) ∧ ChT [5] base w wb ∧ base ≤ wb.heap.size ∧ Blk wb bx 30 #[.slice p.pA p.pn p.pc, .int .i64 p.cid, .int .i64 p.rev, .int .i64 p.top, .int .i64 p.p1, .int .i64 p.p2, .int .i64 p.p3, .int .i64 p.p4, .slice p.vA p.vn p.vc] ∧ bs.length ≤ 100000) := Lib.hid ⟨own_over (own_over hW HA.out.1) HB2.out.1, (ChT.of_below HA.out.1).trans (ChT.of_below HB2.out.1), Nat.le_trans (Nat.le_trans hb0 HA.out.1.size) HB2.out.1.size, HB2.out.2, hn⟩
  clear hwb hbx
  have HWA := Lib.hid hwa
  clear hwa hW hin hv hk2
  have c7 : wa.cell? ⟨w.heap.size, 7, none⟩ = some (.slice p.pA p.pn p.pc) := HA.out.2.cell 7
  have c8 : wa.cell? ⟨w.heap.size, 8, none⟩ = some (.int .i64 p.cid) := HA.out.2.cell 8
  have c9 : wa.cell? ⟨w.heap.size, 9, none⟩ = some (.int .i64 p.rev) := HA.out.2.cell 9
  have c10 : wa.cell? ⟨w.heap.size, 10, none⟩ = some (.int .i64 p.top) := HA.out.2.cell 10
  have c11 : wa.cell? ⟨w.heap.size, 11, none⟩ = some (.int .i64 p.p1) := HA.out.2.cell 11
  have c12 : wa.cell? ⟨w.heap.size, 12, none⟩ = some (.int .i64 p.p2) := HA.out.2.cell 12
  have c13 : wa.cell? ⟨w.heap.size, 13, none⟩ = some (.int .i64 p.p3) := HA.out.2.cell 13
  have c14 : wa.cell? ⟨w.heap.size, 14, none⟩ = some (.int .i64 p.p4) := HA.out.2.cell 14
  have c15 : wa.cell? ⟨w.heap.size, 15, none⟩ = some (.slice p.vA p.vn p.vc) := HA.out.2.cell 15
  go_enter Tryd.func34, Tryd.ntmps34
  go_upto_region 1 with fail
  rw [← HWA.out]
  go_upto_region 7 with fail
  rw [HWB.out.1, HWB.out.2]
  clear c7 c8 c9 c10 c11 c12 c13 c14 c15
  have d7 : wb.cell? ⟨bx, 0, none⟩ = some (.slice p.pA p.pn p.pc) := HS0.out.2.2.2.1.cell 0
  have d8 : wb.cell? ⟨bx, 1, none⟩ = some (.int .i64 p.cid) := HS0.out.2.2.2.1.cell 1
  have d9 : wb.cell? ⟨bx, 2, none⟩ = some (.int .i64 p.rev) := HS0.out.2.2.2.1.cell 2
  have d10 : wb.cell? ⟨bx, 3, none⟩ = some (.int .i64 p.top) := HS0.out.2.2.2.1.cell 3
  have d11 : wb.cell? ⟨bx, 4, none⟩ = some (.int .i64 p.p1) := HS0.out.2.2.2.1.cell 4
  have d12 : wb.cell? ⟨bx, 5, none⟩ = some (.int .i64 p.p2) := HS0.out.2.2.2.1.cell 5
  have d13 : wb.cell? ⟨bx, 6, none⟩ = some (.int .i64 p.p3) := HS0.out.2.2.2.1.cell 6
  have d14 : wb.cell? ⟨bx, 7, none⟩ = some (.int .i64 p.p4) := HS0.out.2.2.2.1.cell 7
  have d15 : wb.cell? ⟨bx, 8, none⟩ = some (.slice p.vA p.vn p.vc) := HS0.out.2.2.2.1.cell 8
  go_wp2_with (first | (go_at_call 82; refine (putList_b HS5.out.1 HS5.out.2.2.1 (fun w1 hc => (HIN.out w1 (HS5.out.2.1.trans hc)).rv) (by have h2 := HV.out.2.2.2.1; have h3 := (HIN.out w (ChT.refl _ _ _)).rv.lenI; omega) (by have h1 := HS5.out.2.2.2.2; omega) (all_in HV.out.2.2.1)).mono ?_; rintro _ y5 ⟨v5, rfl, ho1, hc1⟩; have hbk : Blk y5 bx 30 #[.slice p.pA p.pn p.pc, .int .i64 p.cid, .int .i64 p.rev, .int .i64 p.top, .int .i64 p.p1, .int .i64 p.p2, .int .i64 p.p3, .int .i64 p.p4, .slice p.vA p.vn p.vc] := HS5.out.2.2.2.1.cht hc1 (.inl (by decide)); have HS6 : Hid (y5.ownsRow base 5 1 v5 (((((((bs) ++ (packL D.set)) ++ (pack [p.cid])) ++ (pack [p.rev])) ++ (pack [p.top])) ++ (packI p.p1 p.p2 p.p3 p.p4)) ++ (packL D.vec)).length (bvs (((((((bs) ++ (packL D.set)) ++ (pack [p.cid])) ++ (pack [p.rev])) ++ (pack [p.top])) ++ (packI p.p1 p.p2 p.p3 p.p4)) ++ (packL D.vec))) ∧ ChT [5] base w y5 ∧ base ≤ y5.heap.size ∧ Blk y5 bx 30 #[.slice p.pA p.pn p.pc, .int .i64 p.cid, .int .i64 p.rev, .int .i64 p.top, .int .i64 p.p1, .int .i64 p.p2, .int .i64 p.p3, .int .i64 p.p4, .slice p.vA p.vn p.vc] ∧ (((((((bs) ++ (packL D.set)) ++ (pack [p.cid])) ++ (pack [p.rev])) ++ (pack [p.top])) ++ (packI p.p1 p.p2 p.p3 p.p4)) ++ (packL D.vec)).length ≤ 100369) := Lib.hid ⟨ho1, HS5.out.2.1.trans hc1, Nat.le_trans HS5.out.2.2.1 (ChT.size hc1), hbk, packL_len (k := 16) HS5.out.2.2.2.2 HV.out.2.2.2.1⟩; clear ho1 hc1 hbk; go_simp) | (go_at_call 83; refine (putID_b HS4.out.1 HS4.out.2.2.1 (by have := HS4.out.2.2.2.2; omega) HV.out.2.2.2.2.2.2.2).mono ?_; rintro _ y4 ⟨v4, rfl, ho1, hc1⟩; have hbk : Blk y4 bx 30 #[.slice p.pA p.pn p.pc, .int .i64 p.cid, .int .i64 p.rev, .int .i64 p.top, .int .i64 p.p1, .int .i64 p.p2, .int .i64 p.p3, .int .i64 p.p4, .slice p.vA p.vn p.vc] := HS4.out.2.2.2.1.cht hc1 (.inl (by decide)); have HS5 : Hid (y4.ownsRow base 5 1 v4 ((((((bs) ++ (packL D.set)) ++ (pack [p.cid])) ++ (pack [p.rev])) ++ (pack [p.top])) ++ (packI p.p1 p.p2 p.p3 p.p4)).length (bvs ((((((bs) ++ (packL D.set)) ++ (pack [p.cid])) ++ (pack [p.rev])) ++ (pack [p.top])) ++ (packI p.p1 p.p2 p.p3 p.p4))) ∧ ChT [5] base w y4 ∧ base ≤ y4.heap.size ∧ Blk y4 bx 30 #[.slice p.pA p.pn p.pc, .int .i64 p.cid, .int .i64 p.rev, .int .i64 p.top, .int .i64 p.p1, .int .i64 p.p2, .int .i64 p.p3, .int .i64 p.p4, .slice p.vA p.vn p.vc] ∧ ((((((bs) ++ (packL D.set)) ++ (pack [p.cid])) ++ (pack [p.rev])) ++ (pack [p.top])) ++ (packI p.p1 p.p2 p.p3 p.p4)).length ≤ 100216) := Lib.hid ⟨ho1, HS4.out.2.1.trans hc1, Nat.le_trans HS4.out.2.2.1 (ChT.size hc1), hbk, packI_len HS4.out.2.2.2.2⟩; have e7 : y4.cell? ⟨bx, 0, none⟩ = some (.slice p.pA p.pn p.pc) := hbk.cell 0; have e8 : y4.cell? ⟨bx, 1, none⟩ = some (.int .i64 p.cid) := hbk.cell 1; have e9 : y4.cell? ⟨bx, 2, none⟩ = some (.int .i64 p.rev) := hbk.cell 2; have e10 : y4.cell? ⟨bx, 3, none⟩ = some (.int .i64 p.top) := hbk.cell 3; have e11 : y4.cell? ⟨bx, 4, none⟩ = some (.int .i64 p.p1) := hbk.cell 4; have e12 : y4.cell? ⟨bx, 5, none⟩ = some (.int .i64 p.p2) := hbk.cell 5; have e13 : y4.cell? ⟨bx, 6, none⟩ = some (.int .i64 p.p3) := hbk.cell 6; have e14 : y4.cell? ⟨bx, 7, none⟩ = some (.int .i64 p.p4) := hbk.cell 7; have e15 : y4.cell? ⟨bx, 8, none⟩ = some (.slice p.vA p.vn p.vc) := hbk.cell 8; clear ho1 hc1 hbk; go_simp) | (go_at_call 33; refine (put_b (x := p.top) HS3.out.1 HS3.out.2.2.1 (by have := HS3.out.2.2.2.2; omega) (by have h1 := HV.out.2.2.2.2.2.2.1; simp [cntB] at h1; omega)).mono ?_; rintro _ y3 ⟨v3, rfl, ho1, hc1⟩; have hbk : Blk y3 bx 30 #[.slice p.pA p.pn p.pc, .int .i64 p.cid, .int .i64 p.rev, .int .i64 p.top, .int .i64 p.p1, .int .i64 p.p2, .int .i64 p.p3, .int .i64 p.p4, .slice p.vA p.vn p.vc] := HS3.out.2.2.2.1.cht hc1 (.inl (by decide)); have HS4 : Hid (y3.ownsRow base 5 1 v3 (((((bs) ++ (packL D.set)) ++ (pack [p.cid])) ++ (pack [p.rev])) ++ (pack [p.top])).length (bvs (((((bs) ++ (packL D.set)) ++ (pack [p.cid])) ++ (pack [p.rev])) ++ (pack [p.top]))) ∧ ChT [5] base w y3 ∧ base ≤ y3.heap.size ∧ Blk y3 bx 30 #[.slice p.pA p.pn p.pc, .int .i64 p.cid, .int .i64 p.rev, .int .i64 p.top, .int .i64 p.p1, .int .i64 p.p2, .int .i64 p.p3, .int .i64 p.p4, .slice p.vA p.vn p.vc] ∧ (((((bs) ++ (packL D.set)) ++ (pack [p.cid])) ++ (pack [p.rev])) ++ (pack [p.top])).length ≤ 100180) := Lib.hid ⟨ho1, HS3.out.2.1.trans hc1, Nat.le_trans HS3.out.2.2.1 (ChT.size hc1), hbk, pack_len (k := 1) HS3.out.2.2.2.2 (by simp)⟩; have e7 : y3.cell? ⟨bx, 0, none⟩ = some (.slice p.pA p.pn p.pc) := hbk.cell 0; have e8 : y3.cell? ⟨bx, 1, none⟩ = some (.int .i64 p.cid) := hbk.cell 1; have e9 : y3.cell? ⟨bx, 2, none⟩ = some (.int .i64 p.rev) := hbk.cell 2; have e10 : y3.cell? ⟨bx, 3, none⟩ = some (.int .i64 p.top) := hbk.cell 3; have e11 : y3.cell? ⟨bx, 4, none⟩ = some (.int .i64 p.p1) := hbk.cell 4; have e12 : y3.cell? ⟨bx, 5, none⟩ = some (.int .i64 p.p2) := hbk.cell 5; have e13 : y3.cell? ⟨bx, 6, none⟩ = some (.int .i64 p.p3) := hbk.cell 6; have e14 : y3.cell? ⟨bx, 7, none⟩ = some (.int .i64 p.p4) := hbk.cell 7; have e15 : y3.cell? ⟨bx, 8, none⟩ = some (.slice p.vA p.vn p.vc) := hbk.cell 8; clear ho1 hc1 hbk; go_simp) | (go_at_call 33; refine (put_b (x := p.rev) HS2.out.1 HS2.out.2.2.1 (by have := HS2.out.2.2.2.2; omega) (by have h1 := HV.out.2.2.2.2.2.1; simp [cntB] at h1; omega)).mono ?_; rintro _ y2 ⟨v2, rfl, ho1, hc1⟩; have hbk : Blk y2 bx 30 #[.slice p.pA p.pn p.pc, .int .i64 p.cid, .int .i64 p.rev, .int .i64 p.top, .int .i64 p.p1, .int .i64 p.p2, .int .i64 p.p3, .int .i64 p.p4, .slice p.vA p.vn p.vc] := HS2.out.2.2.2.1.cht hc1 (.inl (by decide)); have HS3 : Hid (y2.ownsRow base 5 1 v2 ((((bs) ++ (packL D.set)) ++ (pack [p.cid])) ++ (pack [p.rev])).length (bvs ((((bs) ++ (packL D.set)) ++ (pack [p.cid])) ++ (pack [p.rev]))) ∧ ChT [5] base w y2 ∧ base ≤ y2.heap.size ∧ Blk y2 bx 30 #[.slice p.pA p.pn p.pc, .int .i64 p.cid, .int .i64 p.rev, .int .i64 p.top, .int .i64 p.p1, .int .i64 p.p2, .int .i64 p.p3, .int .i64 p.p4, .slice p.vA p.vn p.vc] ∧ ((((bs) ++ (packL D.set)) ++ (pack [p.cid])) ++ (pack [p.rev])).length ≤ 100171) := Lib.hid ⟨ho1, HS2.out.2.1.trans hc1, Nat.le_trans HS2.out.2.2.1 (ChT.size hc1), hbk, pack_len (k := 1) HS2.out.2.2.2.2 (by simp)⟩; have e7 : y2.cell? ⟨bx, 0, none⟩ = some (.slice p.pA p.pn p.pc) := hbk.cell 0; have e8 : y2.cell? ⟨bx, 1, none⟩ = some (.int .i64 p.cid) := hbk.cell 1; have e9 : y2.cell? ⟨bx, 2, none⟩ = some (.int .i64 p.rev) := hbk.cell 2; have e10 : y2.cell? ⟨bx, 3, none⟩ = some (.int .i64 p.top) := hbk.cell 3; have e11 : y2.cell? ⟨bx, 4, none⟩ = some (.int .i64 p.p1) := hbk.cell 4; have e12 : y2.cell? ⟨bx, 5, none⟩ = some (.int .i64 p.p2) := hbk.cell 5; have e13 : y2.cell? ⟨bx, 6, none⟩ = some (.int .i64 p.p3) := hbk.cell 6; have e14 : y2.cell? ⟨bx, 7, none⟩ = some (.int .i64 p.p4) := hbk.cell 7; have e15 : y2.cell? ⟨bx, 8, none⟩ = some (.slice p.vA p.vn p.vc) := hbk.cell 8; clear ho1 hc1 hbk; go_simp) | (go_at_call 33; refine (put_b (x := p.cid) HS1.out.1 HS1.out.2.2.1 (by have := HS1.out.2.2.2.2; omega) (by have h1 := HV.out.2.2.2.2.1; simp [cntB] at h1; omega)).mono ?_; rintro _ y1 ⟨v1, rfl, ho1, hc1⟩; have hbk : Blk y1 bx 30 #[.slice p.pA p.pn p.pc, .int .i64 p.cid, .int .i64 p.rev, .int .i64 p.top, .int .i64 p.p1, .int .i64 p.p2, .int .i64 p.p3, .int .i64 p.p4, .slice p.vA p.vn p.vc] := HS1.out.2.2.2.1.cht hc1 (.inl (by decide)); have HS2 : Hid (y1.ownsRow base 5 1 v1 (((bs) ++ (packL D.set)) ++ (pack [p.cid])).length (bvs (((bs) ++ (packL D.set)) ++ (pack [p.cid]))) ∧ ChT [5] base w y1 ∧ base ≤ y1.heap.size ∧ Blk y1 bx 30 #[.slice p.pA p.pn p.pc, .int .i64 p.cid, .int .i64 p.rev, .int .i64 p.top, .int .i64 p.p1, .int .i64 p.p2, .int .i64 p.p3, .int .i64 p.p4, .slice p.vA p.vn p.vc] ∧ (((bs) ++ (packL D.set)) ++ (pack [p.cid])).length ≤ 100162) := Lib.hid ⟨ho1, HS1.out.2.1.trans hc1, Nat.le_trans HS1.out.2.2.1 (ChT.size hc1), hbk, pack_len (k := 1) HS1.out.2.2.2.2 (by simp)⟩; have e7 : y1.cell? ⟨bx, 0, none⟩ = some (.slice p.pA p.pn p.pc) := hbk.cell 0; have e8 : y1.cell? ⟨bx, 1, none⟩ = some (.int .i64 p.cid) := hbk.cell 1; have e9 : y1.cell? ⟨bx, 2, none⟩ = some (.int .i64 p.rev) := hbk.cell 2; have e10 : y1.cell? ⟨bx, 3, none⟩ = some (.int .i64 p.top) := hbk.cell 3; have e11 : y1.cell? ⟨bx, 4, none⟩ = some (.int .i64 p.p1) := hbk.cell 4; have e12 : y1.cell? ⟨bx, 5, none⟩ = some (.int .i64 p.p2) := hbk.cell 5; have e13 : y1.cell? ⟨bx, 6, none⟩ = some (.int .i64 p.p3) := hbk.cell 6; have e14 : y1.cell? ⟨bx, 7, none⟩ = some (.int .i64 p.p4) := hbk.cell 7; have e15 : y1.cell? ⟨bx, 8, none⟩ = some (.slice p.vA p.vn p.vc) := hbk.cell 8; clear ho1 hc1 hbk; go_simp) | (go_at_call 82; refine (putList_b HS0.out.1 HS0.out.2.2.1 (fun w1 hc => (HIN.out w1 (HS0.out.2.1.trans hc)).rp) (by have h2 := HV.out.2.1; have h3 := (HIN.out w (ChT.refl _ _ _)).rp.lenI; omega) (by have h1 := HS0.out.2.2.2.2; omega) (all_in HV.out.1)).mono ?_; rintro _ y0 ⟨v0, rfl, ho1, hc1⟩; have hbk : Blk y0 bx 30 #[.slice p.pA p.pn p.pc, .int .i64 p.cid, .int .i64 p.rev, .int .i64 p.top, .int .i64 p.p1, .int .i64 p.p2, .int .i64 p.p3, .int .i64 p.p4, .slice p.vA p.vn p.vc] := HS0.out.2.2.2.1.cht hc1 (.inl (by decide)); have HS1 : Hid (y0.ownsRow base 5 1 v0 ((bs) ++ (packL D.set)).length (bvs ((bs) ++ (packL D.set))) ∧ ChT [5] base w y0 ∧ base ≤ y0.heap.size ∧ Blk y0 bx 30 #[.slice p.pA p.pn p.pc, .int .i64 p.cid, .int .i64 p.rev, .int .i64 p.top, .int .i64 p.p1, .int .i64 p.p2, .int .i64 p.p3, .int .i64 p.p4, .slice p.vA p.vn p.vc] ∧ ((bs) ++ (packL D.set)).length ≤ 100153) := Lib.hid ⟨ho1, HS0.out.2.1.trans hc1, Nat.le_trans HS0.out.2.2.1 (ChT.size hc1), hbk, packL_len (k := 16) HS0.out.2.2.2.2 HV.out.2.1⟩; have e7 : y0.cell? ⟨bx, 0, none⟩ = some (.slice p.pA p.pn p.pc) := hbk.cell 0; have e8 : y0.cell? ⟨bx, 1, none⟩ = some (.int .i64 p.cid) := hbk.cell 1; have e9 : y0.cell? ⟨bx, 2, none⟩ = some (.int .i64 p.rev) := hbk.cell 2; have e10 : y0.cell? ⟨bx, 3, none⟩ = some (.int .i64 p.top) := hbk.cell 3; have e11 : y0.cell? ⟨bx, 4, none⟩ = some (.int .i64 p.p1) := hbk.cell 4; have e12 : y0.cell? ⟨bx, 5, none⟩ = some (.int .i64 p.p2) := hbk.cell 5; have e13 : y0.cell? ⟨bx, 6, none⟩ = some (.int .i64 p.p3) := hbk.cell 6; have e14 : y0.cell? ⟨bx, 7, none⟩ = some (.int .i64 p.p4) := hbk.cell 7; have e15 : y0.cell? ⟨bx, 8, none⟩ = some (.slice p.vA p.vn p.vc) := hbk.cell 8; clear ho1 hc1 hbk; go_simp))
  go_ret
  have e : pack [p.cid, p.rev, p.top] = pack [p.cid] ++ pack [p.rev] ++ pack [p.top] := by simp [pack]
  refine ⟨v5, rfl, ?_, HS6.out.2.1⟩
  have h := HS6.out.1
  rw [e]; simpa only [List.append_assoc] using h
set_option maxRecDepth 100000 in
set_option maxHeartbeats 3200000 in
theorem rpart_4 {base B : Nat} {v : Value} {bs : List UInt8} {p : Pk} {D : PkD} {w : World} (hk1 : p.k = 4) (hk2 : stableB p.w1 p.w2 p.w3 p.w4 p.done p.pfx = true) (hW : w.ownsRow base 5 1 v bs.length (bvs bs)) (hb0 : base ≤ w.heap.size) (hin : InR w base B p D) (hn : bs.length ≤ 100000) :
    Calls Tryd.prog 34 #[v, .agg p.cells] w (BtP w base (bs ++ (packI p.w1 p.w2 p.w3 p.w4 ++ pack [p.done, p.pfx]))) := by
  have hv : wholeB p.w1 p.w2 p.w3 p.w4 = true ∧ cntB p.done 0 = true ∧ 0 ≤ p.pfx ∧ p.pfx ≤ p.done := by
    simp only [stableB, Bool.and_eq_true, decide_eq_true_eq] at hk2
    exact ⟨hk2.1.1.1, hk2.1.1.2, hk2.1.2, hk2.2⟩
  have HV := Lib.hid hv
  have HIN := Lib.hid hin
  obtain ⟨wa, hwa⟩ : ∃ wa, wa = w.alloc (.cells p.cells 45) := ⟨_, rfl⟩
  have HA : Hid (Below w.heap.size w wa ∧ Blk wa w.heap.size 45 p.cells) := Lib.hid ⟨by rw [hwa]; exact one_box _ _, by rw [hwa]; exact Blk.new _ _ _⟩
  have c0 : wa.cell? ⟨w.heap.size, 0, none⟩ = some (.int .i64 4) := by rw [HA.out.2.cell]; exact congrArg (fun z => some (Value.int .i64 z)) hk1
  obtain ⟨bx, hbx⟩ : ∃ x, x = w.heap.size := ⟨_, rfl⟩
  have HS0 : Hid (wa.ownsRow base 5 1 v bs.length (bvs bs) ∧ ChT [5] base w wa ∧ base ≤ wa.heap.size ∧ Blk wa bx 45 p.cells ∧ bs.length ≤ 100000) := Lib.hid ⟨own_over hW HA.out.1, ChT.of_below HA.out.1, Nat.le_trans hb0 HA.out.1.size, hbx ▸ HA.out.2, hn⟩
  have HBX : Hid (w.heap.size = bx) := Lib.hid hbx.symm
  rw [← hbx] at c0
  clear hbx
  have HWA := Lib.hid hwa
  clear hwa hW hin hv hk2
  have c23 : wa.cell? ⟨bx, 23, none⟩ = some (.int .i64 p.w1) := HS0.out.2.2.2.1.cell 23
  have c24 : wa.cell? ⟨bx, 24, none⟩ = some (.int .i64 p.w2) := HS0.out.2.2.2.1.cell 24
  have c25 : wa.cell? ⟨bx, 25, none⟩ = some (.int .i64 p.w3) := HS0.out.2.2.2.1.cell 25
  have c26 : wa.cell? ⟨bx, 26, none⟩ = some (.int .i64 p.w4) := HS0.out.2.2.2.1.cell 26
  have c27 : wa.cell? ⟨bx, 27, none⟩ = some (.int .i64 p.done) := HS0.out.2.2.2.1.cell 27
  have c28 : wa.cell? ⟨bx, 28, none⟩ = some (.int .i64 p.pfx) := HS0.out.2.2.2.1.cell 28
  go_enter Tryd.func34, Tryd.ntmps34
  go_upto_region 1 with fail
  rw [← HWA.out]
  rw [HBX.out]
  go_wp2_with (first | (go_at_call 33; refine (put_b (x := p.pfx) HS2.out.1 HS2.out.2.2.1 (by have := HS2.out.2.2.2.2; omega) (by have h1 := HV.out.2.1; have h2 := HV.out.2.2; simp [cntB] at h1; omega)).mono ?_; rintro _ y2 ⟨v2, rfl, ho1, hc1⟩; have hbk : Blk y2 bx 45 p.cells := HS2.out.2.2.2.1.cht hc1 (.inl (by decide)); have HS3 : Hid (y2.ownsRow base 5 1 v2 ((((bs) ++ (packI p.w1 p.w2 p.w3 p.w4)) ++ (pack [p.done])) ++ (pack [p.pfx])).length (bvs ((((bs) ++ (packI p.w1 p.w2 p.w3 p.w4)) ++ (pack [p.done])) ++ (pack [p.pfx]))) ∧ ChT [5] base w y2 ∧ base ≤ y2.heap.size ∧ Blk y2 bx 45 p.cells ∧ ((((bs) ++ (packI p.w1 p.w2 p.w3 p.w4)) ++ (pack [p.done])) ++ (pack [p.pfx])).length ≤ 100054) := Lib.hid ⟨ho1, HS2.out.2.1.trans hc1, Nat.le_trans HS2.out.2.2.1 (ChT.size hc1), hbk, pack_len (k := 1) HS2.out.2.2.2.2 (by simp)⟩; clear ho1 hc1 hbk; go_simp) | (go_at_call 33; refine (put_b (x := p.done) HS1.out.1 HS1.out.2.2.1 (by have := HS1.out.2.2.2.2; omega) (by have h1 := HV.out.2.1; simp [cntB] at h1; omega)).mono ?_; rintro _ y1 ⟨v1, rfl, ho1, hc1⟩; have hbk : Blk y1 bx 45 p.cells := HS1.out.2.2.2.1.cht hc1 (.inl (by decide)); have HS2 : Hid (y1.ownsRow base 5 1 v1 (((bs) ++ (packI p.w1 p.w2 p.w3 p.w4)) ++ (pack [p.done])).length (bvs (((bs) ++ (packI p.w1 p.w2 p.w3 p.w4)) ++ (pack [p.done]))) ∧ ChT [5] base w y1 ∧ base ≤ y1.heap.size ∧ Blk y1 bx 45 p.cells ∧ (((bs) ++ (packI p.w1 p.w2 p.w3 p.w4)) ++ (pack [p.done])).length ≤ 100045) := Lib.hid ⟨ho1, HS1.out.2.1.trans hc1, Nat.le_trans HS1.out.2.2.1 (ChT.size hc1), hbk, pack_len (k := 1) HS1.out.2.2.2.2 (by simp)⟩; have e23 : y1.cell? ⟨bx, 23, none⟩ = some (.int .i64 p.w1) := hbk.cell 23; have e24 : y1.cell? ⟨bx, 24, none⟩ = some (.int .i64 p.w2) := hbk.cell 24; have e25 : y1.cell? ⟨bx, 25, none⟩ = some (.int .i64 p.w3) := hbk.cell 25; have e26 : y1.cell? ⟨bx, 26, none⟩ = some (.int .i64 p.w4) := hbk.cell 26; have e27 : y1.cell? ⟨bx, 27, none⟩ = some (.int .i64 p.done) := hbk.cell 27; have e28 : y1.cell? ⟨bx, 28, none⟩ = some (.int .i64 p.pfx) := hbk.cell 28; clear ho1 hc1 hbk; go_simp) | (go_at_call 83; refine (putID_b HS0.out.1 HS0.out.2.2.1 (by have := HS0.out.2.2.2.2; omega) (.inl HV.out.1)).mono ?_; rintro _ y0 ⟨v0, rfl, ho1, hc1⟩; have hbk : Blk y0 bx 45 p.cells := HS0.out.2.2.2.1.cht hc1 (.inl (by decide)); have HS1 : Hid (y0.ownsRow base 5 1 v0 ((bs) ++ (packI p.w1 p.w2 p.w3 p.w4)).length (bvs ((bs) ++ (packI p.w1 p.w2 p.w3 p.w4))) ∧ ChT [5] base w y0 ∧ base ≤ y0.heap.size ∧ Blk y0 bx 45 p.cells ∧ ((bs) ++ (packI p.w1 p.w2 p.w3 p.w4)).length ≤ 100036) := Lib.hid ⟨ho1, HS0.out.2.1.trans hc1, Nat.le_trans HS0.out.2.2.1 (ChT.size hc1), hbk, packI_len HS0.out.2.2.2.2⟩; have e23 : y0.cell? ⟨bx, 23, none⟩ = some (.int .i64 p.w1) := hbk.cell 23; have e24 : y0.cell? ⟨bx, 24, none⟩ = some (.int .i64 p.w2) := hbk.cell 24; have e25 : y0.cell? ⟨bx, 25, none⟩ = some (.int .i64 p.w3) := hbk.cell 25; have e26 : y0.cell? ⟨bx, 26, none⟩ = some (.int .i64 p.w4) := hbk.cell 26; have e27 : y0.cell? ⟨bx, 27, none⟩ = some (.int .i64 p.done) := hbk.cell 27; have e28 : y0.cell? ⟨bx, 28, none⟩ = some (.int .i64 p.pfx) := hbk.cell 28; clear ho1 hc1 hbk; go_simp))
  go_ret
  have e : pack [p.done, p.pfx] = pack [p.done] ++ pack [p.pfx] := by simp [pack]
  refine ⟨v2, rfl, ?_, HS3.out.2.1⟩
  have h := HS3.out.1
  rw [e]; simpa only [List.append_assoc] using h
set_option maxRecDepth 100000 in
set_option maxHeartbeats 3200000 in
theorem rpart_5 {base B : Nat} {v : Value} {bs : List UInt8} {p : Pk} {D : PkD} {w : World} (hk1 : p.k = 5) (hk2 : frameB p.t1 p.t2 p.t3 p.t4 p.seq p.bn = true) (hW : w.ownsRow base 5 1 v bs.length (bvs bs)) (hb0 : base ≤ w.heap.size) (hin : InR w base B p D) (hn : bs.length ≤ 100000) :
    Calls Tryd.prog 34 #[v, .agg p.cells] w (BtP w base (bs ++ (packI p.t1 p.t2 p.t3 p.t4 ++ pack [p.seq] ++ packB D.body))) := by
  have hv : wholeB p.t1 p.t2 p.t3 p.t4 = true ∧ cntB p.seq 1 = true ∧ p.bn ≤ 300 := by
    simp only [frameB, Bool.and_eq_true, decide_eq_true_eq] at hk2
    exact ⟨hk2.1.1.1, hk2.1.1.2, hk2.2⟩
  have HV := Lib.hid hv
  have HIN := Lib.hid hin
  obtain ⟨wa, hwa⟩ : ∃ wa, wa = w.alloc (.cells p.cells 45) := ⟨_, rfl⟩
  have HA : Hid (Below w.heap.size w wa ∧ Blk wa w.heap.size 45 p.cells) := Lib.hid ⟨by rw [hwa]; exact one_box _ _, by rw [hwa]; exact Blk.new _ _ _⟩
  have c0 : wa.cell? ⟨w.heap.size, 0, none⟩ = some (.int .i64 5) := by rw [HA.out.2.cell]; exact congrArg (fun z => some (Value.int .i64 z)) hk1
  obtain ⟨bx, hbx⟩ : ∃ x, x = w.heap.size := ⟨_, rfl⟩
  have HS0 : Hid (wa.ownsRow base 5 1 v bs.length (bvs bs) ∧ ChT [5] base w wa ∧ base ≤ wa.heap.size ∧ Blk wa bx 45 p.cells ∧ bs.length ≤ 100000) := Lib.hid ⟨own_over hW HA.out.1, ChT.of_below HA.out.1, Nat.le_trans hb0 HA.out.1.size, hbx ▸ HA.out.2, hn⟩
  have HBX : Hid (w.heap.size = bx) := Lib.hid hbx.symm
  rw [← hbx] at c0
  clear hbx
  have HWA := Lib.hid hwa
  clear hwa hW hin hv hk2
  have c29 : wa.cell? ⟨bx, 29, none⟩ = some (.int .i64 p.t1) := HS0.out.2.2.2.1.cell 29
  have c30 : wa.cell? ⟨bx, 30, none⟩ = some (.int .i64 p.t2) := HS0.out.2.2.2.1.cell 30
  have c31 : wa.cell? ⟨bx, 31, none⟩ = some (.int .i64 p.t3) := HS0.out.2.2.2.1.cell 31
  have c32 : wa.cell? ⟨bx, 32, none⟩ = some (.int .i64 p.t4) := HS0.out.2.2.2.1.cell 32
  have c33 : wa.cell? ⟨bx, 33, none⟩ = some (.int .i64 p.seq) := HS0.out.2.2.2.1.cell 33
  have c34 : wa.cell? ⟨bx, 34, none⟩ = some (.slice p.bA p.bn p.bc) := HS0.out.2.2.2.1.cell 34
  go_enter Tryd.func34, Tryd.ntmps34
  go_upto_region 1 with fail
  rw [← HWA.out]
  rw [HBX.out]
  go_wp2_with (first | (go_at_call 84; refine (PutBytes_b HS2.out.1 HS2.out.2.2.1 (fun w1 hc => (HIN.out w1 (HS2.out.2.1.trans hc)).rb) (by have h1 := HS2.out.2.2.2.2; have h2 := HV.out.2.2; omega)).mono ?_; rintro _ y2 ⟨v2, rfl, ho1, hc1⟩; have hbk : Blk y2 bx 45 p.cells := HS2.out.2.2.2.1.cht hc1 (.inl (by decide)); have HS3 : Hid (y2.ownsRow base 5 1 v2 ((((bs) ++ (packI p.t1 p.t2 p.t3 p.t4)) ++ (pack [p.seq])) ++ (packB D.body)).length (bvs ((((bs) ++ (packI p.t1 p.t2 p.t3 p.t4)) ++ (pack [p.seq])) ++ (packB D.body))) ∧ ChT [5] base w y2 ∧ base ≤ y2.heap.size ∧ Blk y2 bx 45 p.cells ∧ ((((bs) ++ (packI p.t1 p.t2 p.t3 p.t4)) ++ (pack [p.seq])) ++ (packB D.body)).length ≤ 100355) := Lib.hid ⟨ho1, HS2.out.2.1.trans hc1, Nat.le_trans HS2.out.2.2.1 (ChT.size hc1), hbk, packT_len HS2.out.2.2.2.2 (by have h2 := HV.out.2.2; have h3 := (HIN.out w (ChT.refl _ _ _)).rb.lenB; omega)⟩; clear ho1 hc1 hbk; go_simp) | (go_at_call 33; refine (put_b (x := p.seq) HS1.out.1 HS1.out.2.2.1 (by have := HS1.out.2.2.2.2; omega) (by have h1 := HV.out.2.1; simp [cntB] at h1; omega)).mono ?_; rintro _ y1 ⟨v1, rfl, ho1, hc1⟩; have hbk : Blk y1 bx 45 p.cells := HS1.out.2.2.2.1.cht hc1 (.inl (by decide)); have HS2 : Hid (y1.ownsRow base 5 1 v1 (((bs) ++ (packI p.t1 p.t2 p.t3 p.t4)) ++ (pack [p.seq])).length (bvs (((bs) ++ (packI p.t1 p.t2 p.t3 p.t4)) ++ (pack [p.seq]))) ∧ ChT [5] base w y1 ∧ base ≤ y1.heap.size ∧ Blk y1 bx 45 p.cells ∧ (((bs) ++ (packI p.t1 p.t2 p.t3 p.t4)) ++ (pack [p.seq])).length ≤ 100045) := Lib.hid ⟨ho1, HS1.out.2.1.trans hc1, Nat.le_trans HS1.out.2.2.1 (ChT.size hc1), hbk, pack_len (k := 1) HS1.out.2.2.2.2 (by simp)⟩; have e29 : y1.cell? ⟨bx, 29, none⟩ = some (.int .i64 p.t1) := hbk.cell 29; have e30 : y1.cell? ⟨bx, 30, none⟩ = some (.int .i64 p.t2) := hbk.cell 30; have e31 : y1.cell? ⟨bx, 31, none⟩ = some (.int .i64 p.t3) := hbk.cell 31; have e32 : y1.cell? ⟨bx, 32, none⟩ = some (.int .i64 p.t4) := hbk.cell 32; have e33 : y1.cell? ⟨bx, 33, none⟩ = some (.int .i64 p.seq) := hbk.cell 33; have e34 : y1.cell? ⟨bx, 34, none⟩ = some (.slice p.bA p.bn p.bc) := hbk.cell 34; clear ho1 hc1 hbk; go_simp) | (go_at_call 83; refine (putID_b HS0.out.1 HS0.out.2.2.1 (by have := HS0.out.2.2.2.2; omega) (.inl HV.out.1)).mono ?_; rintro _ y0 ⟨v0, rfl, ho1, hc1⟩; have hbk : Blk y0 bx 45 p.cells := HS0.out.2.2.2.1.cht hc1 (.inl (by decide)); have HS1 : Hid (y0.ownsRow base 5 1 v0 ((bs) ++ (packI p.t1 p.t2 p.t3 p.t4)).length (bvs ((bs) ++ (packI p.t1 p.t2 p.t3 p.t4))) ∧ ChT [5] base w y0 ∧ base ≤ y0.heap.size ∧ Blk y0 bx 45 p.cells ∧ ((bs) ++ (packI p.t1 p.t2 p.t3 p.t4)).length ≤ 100036) := Lib.hid ⟨ho1, HS0.out.2.1.trans hc1, Nat.le_trans HS0.out.2.2.1 (ChT.size hc1), hbk, packI_len HS0.out.2.2.2.2⟩; have e29 : y0.cell? ⟨bx, 29, none⟩ = some (.int .i64 p.t1) := hbk.cell 29; have e30 : y0.cell? ⟨bx, 30, none⟩ = some (.int .i64 p.t2) := hbk.cell 30; have e31 : y0.cell? ⟨bx, 31, none⟩ = some (.int .i64 p.t3) := hbk.cell 31; have e32 : y0.cell? ⟨bx, 32, none⟩ = some (.int .i64 p.t4) := hbk.cell 32; have e33 : y0.cell? ⟨bx, 33, none⟩ = some (.int .i64 p.seq) := hbk.cell 33; have e34 : y0.cell? ⟨bx, 34, none⟩ = some (.slice p.bA p.bn p.bc) := hbk.cell 34; clear ho1 hc1 hbk; go_simp))
  go_ret
  refine ⟨v2, rfl, ?_, HS3.out.2.1⟩
  have h := HS3.out.1
  simpa only [List.append_assoc] using h
set_option maxRecDepth 100000 in
set_option maxHeartbeats 3200000 in
theorem rpart_6 {base B : Nat} {v : Value} {bs : List UInt8} {p : Pk} {D : PkD} {w : World} (hk1 : p.k = 6) (hk2 : ackB p.a1 p.a2 p.a3 p.a4 p.upto = true) (hW : w.ownsRow base 5 1 v bs.length (bvs bs)) (hb0 : base ≤ w.heap.size) (hin : InR w base B p D) (hn : bs.length ≤ 100000) :
    Calls Tryd.prog 34 #[v, .agg p.cells] w (BtP w base (bs ++ (packI p.a1 p.a2 p.a3 p.a4 ++ pack [p.upto]))) := by
  have hv : wholeB p.a1 p.a2 p.a3 p.a4 = true ∧ cntB p.upto 0 = true := by
    simp only [ackB, Bool.and_eq_true] at hk2
    exact hk2
  have HV := Lib.hid hv
  have HIN := Lib.hid hin
  obtain ⟨wa, hwa⟩ : ∃ wa, wa = w.alloc (.cells p.cells 45) := ⟨_, rfl⟩
  have HA : Hid (Below w.heap.size w wa ∧ Blk wa w.heap.size 45 p.cells) := Lib.hid ⟨by rw [hwa]; exact one_box _ _, by rw [hwa]; exact Blk.new _ _ _⟩
  have c0 : wa.cell? ⟨w.heap.size, 0, none⟩ = some (.int .i64 6) := by rw [HA.out.2.cell]; exact congrArg (fun z => some (Value.int .i64 z)) hk1
  obtain ⟨bx, hbx⟩ : ∃ x, x = w.heap.size := ⟨_, rfl⟩
  have HS0 : Hid (wa.ownsRow base 5 1 v bs.length (bvs bs) ∧ ChT [5] base w wa ∧ base ≤ wa.heap.size ∧ Blk wa bx 45 p.cells ∧ bs.length ≤ 100000) := Lib.hid ⟨own_over hW HA.out.1, ChT.of_below HA.out.1, Nat.le_trans hb0 HA.out.1.size, hbx ▸ HA.out.2, hn⟩
  have HBX : Hid (w.heap.size = bx) := Lib.hid hbx.symm
  rw [← hbx] at c0
  clear hbx
  have HWA := Lib.hid hwa
  clear hwa hW hin hv hk2
  have c35 : wa.cell? ⟨bx, 35, none⟩ = some (.int .i64 p.a1) := HS0.out.2.2.2.1.cell 35
  have c36 : wa.cell? ⟨bx, 36, none⟩ = some (.int .i64 p.a2) := HS0.out.2.2.2.1.cell 36
  have c37 : wa.cell? ⟨bx, 37, none⟩ = some (.int .i64 p.a3) := HS0.out.2.2.2.1.cell 37
  have c38 : wa.cell? ⟨bx, 38, none⟩ = some (.int .i64 p.a4) := HS0.out.2.2.2.1.cell 38
  have c39 : wa.cell? ⟨bx, 39, none⟩ = some (.int .i64 p.upto) := HS0.out.2.2.2.1.cell 39
  go_enter Tryd.func34, Tryd.ntmps34
  go_upto_region 1 with fail
  rw [← HWA.out]
  rw [HBX.out]
  go_wp2_with (first | (go_at_call 33; refine (put_b (x := p.upto) HS1.out.1 HS1.out.2.2.1 (by have := HS1.out.2.2.2.2; omega) (by have h1 := HV.out.2; simp [cntB] at h1; omega)).mono ?_; rintro _ y1 ⟨v1, rfl, ho1, hc1⟩; have hbk : Blk y1 bx 45 p.cells := HS1.out.2.2.2.1.cht hc1 (.inl (by decide)); have HS2 : Hid (y1.ownsRow base 5 1 v1 (((bs) ++ (packI p.a1 p.a2 p.a3 p.a4)) ++ (pack [p.upto])).length (bvs (((bs) ++ (packI p.a1 p.a2 p.a3 p.a4)) ++ (pack [p.upto]))) ∧ ChT [5] base w y1 ∧ base ≤ y1.heap.size ∧ Blk y1 bx 45 p.cells ∧ (((bs) ++ (packI p.a1 p.a2 p.a3 p.a4)) ++ (pack [p.upto])).length ≤ 100045) := Lib.hid ⟨ho1, HS1.out.2.1.trans hc1, Nat.le_trans HS1.out.2.2.1 (ChT.size hc1), hbk, pack_len (k := 1) HS1.out.2.2.2.2 (by simp)⟩; clear ho1 hc1 hbk; go_simp) | (go_at_call 83; refine (putID_b HS0.out.1 HS0.out.2.2.1 (by have := HS0.out.2.2.2.2; omega) (.inl HV.out.1)).mono ?_; rintro _ y0 ⟨v0, rfl, ho1, hc1⟩; have hbk : Blk y0 bx 45 p.cells := HS0.out.2.2.2.1.cht hc1 (.inl (by decide)); have HS1 : Hid (y0.ownsRow base 5 1 v0 ((bs) ++ (packI p.a1 p.a2 p.a3 p.a4)).length (bvs ((bs) ++ (packI p.a1 p.a2 p.a3 p.a4))) ∧ ChT [5] base w y0 ∧ base ≤ y0.heap.size ∧ Blk y0 bx 45 p.cells ∧ ((bs) ++ (packI p.a1 p.a2 p.a3 p.a4)).length ≤ 100036) := Lib.hid ⟨ho1, HS0.out.2.1.trans hc1, Nat.le_trans HS0.out.2.2.1 (ChT.size hc1), hbk, packI_len HS0.out.2.2.2.2⟩; have e35 : y0.cell? ⟨bx, 35, none⟩ = some (.int .i64 p.a1) := hbk.cell 35; have e36 : y0.cell? ⟨bx, 36, none⟩ = some (.int .i64 p.a2) := hbk.cell 36; have e37 : y0.cell? ⟨bx, 37, none⟩ = some (.int .i64 p.a3) := hbk.cell 37; have e38 : y0.cell? ⟨bx, 38, none⟩ = some (.int .i64 p.a4) := hbk.cell 38; have e39 : y0.cell? ⟨bx, 39, none⟩ = some (.int .i64 p.upto) := hbk.cell 39; clear ho1 hc1 hbk; go_simp))
  go_ret
  refine ⟨v1, rfl, ?_, HS2.out.2.1⟩
  have h := HS2.out.1
  simpa only [List.append_assoc] using h
set_option maxRecDepth 100000 in
set_option maxHeartbeats 3200000 in
theorem rpart_3 {base B : Nat} {v : Value} {bs : List UInt8} {p : Pk} {D : PkD} {w : World} (hk1 : p.k = 3) (hk2 : flushB p.f1 p.f2 p.f3 p.f4 p.base D.slots D.got = true) (hW : w.ownsRow base 5 1 v bs.length (bvs bs)) (hb0 : base ≤ w.heap.size) (hin : InR w base B p D) (hn : bs.length ≤ 100000) :
    Calls Tryd.prog 34 #[v, .agg p.cells] w (BtP w base (bs ++ (packI p.f1 p.f2 p.f3 p.f4 ++ pack [p.base, (p.sn : Int)] ++ packS D.slots ++ packL D.got))) := by
  have hv : wholeB p.f1 p.f2 p.f3 p.f4 = true ∧ cntB p.base 0 = true ∧ slotsB D.slots = true ∧ D.slots.length ≤ 128 ∧ allB D.got = true ∧ D.got.length ≤ 16 := by
    simp only [flushB, countsB, Bool.and_eq_true, decide_eq_true_eq] at hk2
    obtain ⟨⟨⟨⟨h1, h2⟩, h3⟩, h4⟩, h5⟩ := hk2
    exact ⟨h2, h3, h1, h4, h5.1.1, h5.2⟩
  have HSN : Hid (D.slots.length = p.sn) := Lib.hid (hin w (ChT.refl _ _ _)).rs.1
  have hsn : p.sn ≤ 128 := by have := HSN.out; have := hv.2.2.2.1; omega
  have HV := Lib.hid hv
  have HIN := Lib.hid hin
  obtain ⟨wa, hwa⟩ : ∃ wa, wa = w.alloc (.cells p.cells 45) := ⟨_, rfl⟩
  have HA : Hid (Below w.heap.size w wa ∧ Blk wa w.heap.size 45 p.cells) := Lib.hid ⟨by rw [hwa]; exact one_box _ _, by rw [hwa]; exact Blk.new _ _ _⟩
  obtain ⟨sA, hsA⟩ : ∃ a, a = p.sA := ⟨_, rfl⟩
  have HSA := Lib.hid hsA
  clear hsA
  have c0 : wa.cell? ⟨w.heap.size, 0, none⟩ = some (.int .i64 3) := by rw [HA.out.2.cell]; exact congrArg (fun z => some (Value.int .i64 z)) hk1
  obtain ⟨wb, hwb⟩ : ∃ x, x = wa.alloc (.cells #[.int .i64 p.f1, .int .i64 p.f2, .int .i64 p.f3, .int .i64 p.f4, .int .i64 p.base, .slice p.sA p.sn p.sc, .slice p.eA p.en p.ec] 33) := ⟨_, rfl⟩
  obtain ⟨bx, hbx⟩ : ∃ x, x = wa.heap.size := ⟨_, rfl⟩
  have HWB : Hid (wa.alloc (.cells #[.int .i64 p.f1, .int .i64 p.f2, .int .i64 p.f3, .int .i64 p.f4, .int .i64 p.base, .slice p.sA p.sn p.sc, .slice p.eA p.en p.ec] 33) = wb ∧ wa.heap.size = bx) := Lib.hid ⟨hwb.symm, hbx.symm⟩
  have HB2 : Hid (Below wa.heap.size wa wb ∧ Blk wb bx 33 #[.int .i64 p.f1, .int .i64 p.f2, .int .i64 p.f3, .int .i64 p.f4, .int .i64 p.base, .slice p.sA p.sn p.sc, .slice p.eA p.en p.ec]) := Lib.hid ⟨by rw [hwb]; exact one_box _ _, by rw [hwb, hbx]; exact Blk.new _ _ _⟩
  have HS0 : Hid (wb.ownsRow base 5 1 v bs.length (bvs bs) ∧ ChT [5] base w wb ∧ base ≤ wb.heap.size ∧ Blk wb bx 33 #[.int .i64 p.f1, .int .i64 p.f2, .int .i64 p.f3, .int .i64 p.f4, .int .i64 p.base, .slice p.sA p.sn p.sc, .slice p.eA p.en p.ec] ∧ bs.length ≤ 100000) := Lib.hid ⟨own_over (own_over hW HA.out.1) HB2.out.1, (ChT.of_below HA.out.1).trans (ChT.of_below HB2.out.1), Nat.le_trans (Nat.le_trans hb0 HA.out.1.size) HB2.out.1.size, HB2.out.2, hn⟩
  clear hwb hbx
  have HWA := Lib.hid hwa
  clear hwa hW hin hv hk2
  have c16 : wa.cell? ⟨w.heap.size, 16, none⟩ = some (.int .i64 p.f1) := HA.out.2.cell 16
  have c17 : wa.cell? ⟨w.heap.size, 17, none⟩ = some (.int .i64 p.f2) := HA.out.2.cell 17
  have c18 : wa.cell? ⟨w.heap.size, 18, none⟩ = some (.int .i64 p.f3) := HA.out.2.cell 18
  have c19 : wa.cell? ⟨w.heap.size, 19, none⟩ = some (.int .i64 p.f4) := HA.out.2.cell 19
  have c20 : wa.cell? ⟨w.heap.size, 20, none⟩ = some (.int .i64 p.base) := HA.out.2.cell 20
  have c21 : wa.cell? ⟨w.heap.size, 21, none⟩ = some (.slice p.sA p.sn p.sc) := HA.out.2.cell 21
  have c22 : wa.cell? ⟨w.heap.size, 22, none⟩ = some (.slice p.eA p.en p.ec) := HA.out.2.cell 22
  go_enter Tryd.func34, Tryd.ntmps34
  go_upto_region 1 with fail
  rw [← HWA.out]
  go_upto_region 15 with fail
  rw [HWB.out.1, HWB.out.2]
  clear c16 c17 c18 c19 c20 c21 c22
  have d16 : wb.cell? ⟨bx, 0, none⟩ = some (.int .i64 p.f1) := HS0.out.2.2.2.1.cell 0
  have d17 : wb.cell? ⟨bx, 1, none⟩ = some (.int .i64 p.f2) := HS0.out.2.2.2.1.cell 1
  have d18 : wb.cell? ⟨bx, 2, none⟩ = some (.int .i64 p.f3) := HS0.out.2.2.2.1.cell 2
  have d19 : wb.cell? ⟨bx, 3, none⟩ = some (.int .i64 p.f4) := HS0.out.2.2.2.1.cell 3
  have d20 : wb.cell? ⟨bx, 4, none⟩ = some (.int .i64 p.base) := HS0.out.2.2.2.1.cell 4
  have d21 : wb.cell? ⟨bx, 5, none⟩ = some (.slice sA p.sn p.sc) := (by rw [HS0.out.2.2.2.1.cell, HSA.out]; rfl)
  have d22 : wb.cell? ⟨bx, 6, none⟩ = some (.slice p.eA p.en p.ec) := HS0.out.2.2.2.1.cell 6
  go_upto_region 18 with (first | (go_at_call 33; refine (put_b (x := (p.sn : Int)) HS2.out.1 HS2.out.2.2.1 (by have := HS2.out.2.2.2.2; omega) (by omega)).mono ?_; rintro _ y2 ⟨v2, rfl, ho1, hc1⟩; have hbk : Blk y2 bx 33 #[.int .i64 p.f1, .int .i64 p.f2, .int .i64 p.f3, .int .i64 p.f4, .int .i64 p.base, .slice p.sA p.sn p.sc, .slice p.eA p.en p.ec] := HS2.out.2.2.2.1.cht hc1 (.inl (by decide)); have HS3 : Hid (y2.ownsRow base 5 1 v2 ((((bs) ++ (packI p.f1 p.f2 p.f3 p.f4)) ++ (pack [p.base])) ++ (pack [(p.sn : Int)])).length (bvs ((((bs) ++ (packI p.f1 p.f2 p.f3 p.f4)) ++ (pack [p.base])) ++ (pack [(p.sn : Int)]))) ∧ ChT [5] base w y2 ∧ base ≤ y2.heap.size ∧ Blk y2 bx 33 #[.int .i64 p.f1, .int .i64 p.f2, .int .i64 p.f3, .int .i64 p.f4, .int .i64 p.base, .slice p.sA p.sn p.sc, .slice p.eA p.en p.ec] ∧ ((((bs) ++ (packI p.f1 p.f2 p.f3 p.f4)) ++ (pack [p.base])) ++ (pack [(p.sn : Int)])).length ≤ 100054) := Lib.hid ⟨ho1, HS2.out.2.1.trans hc1, Nat.le_trans HS2.out.2.2.1 (ChT.size hc1), hbk, pack_len (k := 1) HS2.out.2.2.2.2 (by simp)⟩; have e16 : y2.cell? ⟨bx, 0, none⟩ = some (.int .i64 p.f1) := hbk.cell 0; have e17 : y2.cell? ⟨bx, 1, none⟩ = some (.int .i64 p.f2) := hbk.cell 1; have e18 : y2.cell? ⟨bx, 2, none⟩ = some (.int .i64 p.f3) := hbk.cell 2; have e19 : y2.cell? ⟨bx, 3, none⟩ = some (.int .i64 p.f4) := hbk.cell 3; have e20 : y2.cell? ⟨bx, 4, none⟩ = some (.int .i64 p.base) := hbk.cell 4; have e21 : y2.cell? ⟨bx, 5, none⟩ = some (.slice sA p.sn p.sc) := (by rw [hbk.cell, HSA.out]; rfl); have e22 : y2.cell? ⟨bx, 6, none⟩ = some (.slice p.eA p.en p.ec) := hbk.cell 6; clear ho1 hc1 hbk; go_simp) | (go_at_call 33; refine (put_b (x := p.base) HS1.out.1 HS1.out.2.2.1 (by have := HS1.out.2.2.2.2; omega) (by have h1 := HV.out.2.1; simp [cntB] at h1; omega)).mono ?_; rintro _ y1 ⟨v1, rfl, ho1, hc1⟩; have hbk : Blk y1 bx 33 #[.int .i64 p.f1, .int .i64 p.f2, .int .i64 p.f3, .int .i64 p.f4, .int .i64 p.base, .slice p.sA p.sn p.sc, .slice p.eA p.en p.ec] := HS1.out.2.2.2.1.cht hc1 (.inl (by decide)); have HS2 : Hid (y1.ownsRow base 5 1 v1 (((bs) ++ (packI p.f1 p.f2 p.f3 p.f4)) ++ (pack [p.base])).length (bvs (((bs) ++ (packI p.f1 p.f2 p.f3 p.f4)) ++ (pack [p.base]))) ∧ ChT [5] base w y1 ∧ base ≤ y1.heap.size ∧ Blk y1 bx 33 #[.int .i64 p.f1, .int .i64 p.f2, .int .i64 p.f3, .int .i64 p.f4, .int .i64 p.base, .slice p.sA p.sn p.sc, .slice p.eA p.en p.ec] ∧ (((bs) ++ (packI p.f1 p.f2 p.f3 p.f4)) ++ (pack [p.base])).length ≤ 100045) := Lib.hid ⟨ho1, HS1.out.2.1.trans hc1, Nat.le_trans HS1.out.2.2.1 (ChT.size hc1), hbk, pack_len (k := 1) HS1.out.2.2.2.2 (by simp)⟩; have e16 : y1.cell? ⟨bx, 0, none⟩ = some (.int .i64 p.f1) := hbk.cell 0; have e17 : y1.cell? ⟨bx, 1, none⟩ = some (.int .i64 p.f2) := hbk.cell 1; have e18 : y1.cell? ⟨bx, 2, none⟩ = some (.int .i64 p.f3) := hbk.cell 2; have e19 : y1.cell? ⟨bx, 3, none⟩ = some (.int .i64 p.f4) := hbk.cell 3; have e20 : y1.cell? ⟨bx, 4, none⟩ = some (.int .i64 p.base) := hbk.cell 4; have e21 : y1.cell? ⟨bx, 5, none⟩ = some (.slice sA p.sn p.sc) := (by rw [hbk.cell, HSA.out]; rfl); have e22 : y1.cell? ⟨bx, 6, none⟩ = some (.slice p.eA p.en p.ec) := hbk.cell 6; clear ho1 hc1 hbk; go_simp) | (go_at_call 83; refine (putID_b HS0.out.1 HS0.out.2.2.1 (by have := HS0.out.2.2.2.2; omega) (.inl HV.out.1)).mono ?_; rintro _ y0 ⟨v0, rfl, ho1, hc1⟩; have hbk : Blk y0 bx 33 #[.int .i64 p.f1, .int .i64 p.f2, .int .i64 p.f3, .int .i64 p.f4, .int .i64 p.base, .slice p.sA p.sn p.sc, .slice p.eA p.en p.ec] := HS0.out.2.2.2.1.cht hc1 (.inl (by decide)); have HS1 : Hid (y0.ownsRow base 5 1 v0 ((bs) ++ (packI p.f1 p.f2 p.f3 p.f4)).length (bvs ((bs) ++ (packI p.f1 p.f2 p.f3 p.f4))) ∧ ChT [5] base w y0 ∧ base ≤ y0.heap.size ∧ Blk y0 bx 33 #[.int .i64 p.f1, .int .i64 p.f2, .int .i64 p.f3, .int .i64 p.f4, .int .i64 p.base, .slice p.sA p.sn p.sc, .slice p.eA p.en p.ec] ∧ ((bs) ++ (packI p.f1 p.f2 p.f3 p.f4)).length ≤ 100036) := Lib.hid ⟨ho1, HS0.out.2.1.trans hc1, Nat.le_trans HS0.out.2.2.1 (ChT.size hc1), hbk, packI_len HS0.out.2.2.2.2⟩; have e16 : y0.cell? ⟨bx, 0, none⟩ = some (.int .i64 p.f1) := hbk.cell 0; have e17 : y0.cell? ⟨bx, 1, none⟩ = some (.int .i64 p.f2) := hbk.cell 1; have e18 : y0.cell? ⟨bx, 2, none⟩ = some (.int .i64 p.f3) := hbk.cell 2; have e19 : y0.cell? ⟨bx, 3, none⟩ = some (.int .i64 p.f4) := hbk.cell 3; have e20 : y0.cell? ⟨bx, 4, none⟩ = some (.int .i64 p.base) := hbk.cell 4; have e21 : y0.cell? ⟨bx, 5, none⟩ = some (.slice sA p.sn p.sc) := (by rw [hbk.cell, HSA.out]; rfl); have e22 : y0.cell? ⟨bx, 6, none⟩ = some (.slice p.eA p.en p.ec) := hbk.cell 6; clear ho1 hc1 hbk; go_simp))
  go_wp2_with fail
  go_loopw [0, 7] (fun u i wr => ∃ j : Nat, j ≤ p.sn ∧ i = .int .i64 (j : Int) ∧ Hid (wr.ownsRow base 5 1 u (((((bs) ++ (packI p.f1 p.f2 p.f3 p.f4)) ++ (pack [p.base])) ++ (pack [(p.sn : Int)])) ++ packS (D.slots.take j)).length (bvs (((((bs) ++ (packI p.f1 p.f2 p.f3 p.f4)) ++ (pack [p.base])) ++ (pack [(p.sn : Int)])) ++ packS (D.slots.take j))) ∧ ChT [5] base w wr ∧ base ≤ wr.heap.size ∧ Blk wr bx 33 #[.int .i64 p.f1, .int .i64 p.f2, .int .i64 p.f3, .int .i64 p.f4, .int .i64 p.base, .slice p.sA p.sn p.sc, .slice p.eA p.en p.ec])) (fun _ i _ => p.sn - (intOf i).toNat)
  case atStart => exact ⟨0, by omega, rfl, Lib.hid ⟨by simpa [packS] using HS3.out.1, HS3.out.2.1, HS3.out.2.2.1, HS3.out.2.2.2.1⟩⟩
  case round =>
    obtain ⟨j, hj, rfl, HJ⟩ := hrel
    have HLN : Hid ((((((bs) ++ (packI p.f1 p.f2 p.f3 p.f4)) ++ (pack [p.base])) ++ (pack [(p.sn : Int)])) ++ packS (D.slots.take j)).length ≤ 140000) := Lib.hid (by
      have h1 := HS3.out.2.2.2.2
      have h2 := packS_le (D.slots.take j)
      have h3 : (D.slots.take j).length ≤ j := by rw [List.length_take]; omega
      rw [List.length_append]
      omega)
    have r16 : wr.cell? ⟨bx, 0, none⟩ = some (.int .i64 p.f1) := HJ.out.2.2.2.cell 0
    have r17 : wr.cell? ⟨bx, 1, none⟩ = some (.int .i64 p.f2) := HJ.out.2.2.2.cell 1
    have r18 : wr.cell? ⟨bx, 2, none⟩ = some (.int .i64 p.f3) := HJ.out.2.2.2.cell 2
    have r19 : wr.cell? ⟨bx, 3, none⟩ = some (.int .i64 p.f4) := HJ.out.2.2.2.cell 3
    have r20 : wr.cell? ⟨bx, 4, none⟩ = some (.int .i64 p.base) := HJ.out.2.2.2.cell 4
    have r21 : wr.cell? ⟨bx, 5, none⟩ = some (.slice sA p.sn p.sc) := (by rw [HJ.out.2.2.2.cell, HSA.out]; rfl)
    have r22 : wr.cell? ⟨bx, 6, none⟩ = some (.slice p.eA p.en p.ec) := HJ.out.2.2.2.cell 6
    by_cases hlt : j < p.sn
    · have hI : (j : Int) < (p.sn : Int) := by omega
      obtain ⟨x, hx⟩ : ∃ x, D.slots[j]? = some x := ⟨_, List.getElem?_eq_getElem (by rw [HSN.out]; exact hlt)⟩
      have HX := Lib.hid hx
      obtain ⟨b, off, he, hbl, hcl⟩ := (HIN.out wr HJ.out.2.1).rs.2 (by omega)
      obtain ⟨m0, m1⟩ := hcl j x hx
      have HSL : Hid (slotB x.1 x.2 = true) := Lib.hid (List.all_eq_true.1 HV.out.2.2.1 x (List.mem_of_getElem? hx))
      rw [← HSA.out] at he
      subst he
      have HPK := Lib.hid (put_b (x := x.1) HJ.out.1 HJ.out.2.2.1 (by have := HLN.out; omega) (by have h := slotB_true' HSL.out; omega))
      clear hx hcl
      go_wp2_with (first | (go_at_call 33; refine (put_b (x := x.2) H2.out.1 H2.out.2.2.1 (by have h1 := HLN.out; have h2 := pack_len (k := 1) (is := [x.1]) h1 (by simp); omega) (by have h := slotB_true' HSL.out; omega)).mono ?_; rintro _ y8 ⟨u8, rfl, ho1, hc1⟩; have H3 := Lib.hid (And.intro ho1 (H2.out.2.1.trans hc1)); clear ho1 hc1; go_simp) | (go_at_call 33; refine HPK.out.mono ?_; rintro _ y7 ⟨u7, rfl, ho1, hc1⟩; have hbk : Blk y7 bx 33 #[.int .i64 p.f1, .int .i64 p.f2, .int .i64 p.f3, .int .i64 p.f4, .int .i64 p.base, .slice p.sA p.sn p.sc, .slice p.eA p.en p.ec] := HJ.out.2.2.2.cht hc1 (.inl (by decide)); have H2 := Lib.hid (And.intro ho1 (And.intro hc1 (And.intro (Nat.le_trans HJ.out.2.2.1 (ChT.size hc1)) hbk))); have g21 : y7.cell? ⟨bx, 5, none⟩ = some (.slice (some ⟨b, off, none⟩) p.sn p.sc) := (by rw [hbk.cell, HSA.out]; rfl); have n1 := (SlotsAt.two (HSA.out ▸ (HIN.out y7 (HJ.out.2.1.trans hc1)).rs) hlt HX.out).2; clear ho1 hc1 hbk; go_simp))
      go_roundw
      case rel =>
        refine ⟨j + 1, by omega, by go_num, Lib.hid ⟨?_, HJ.out.2.1.trans H3.out.2, Nat.le_trans HJ.out.2.2.1 (ChT.size H3.out.2), HJ.out.2.2.2.cht H3.out.2 (.inl (by decide))⟩⟩
        have e : pack [x.1, x.2] = pack [x.1] ++ pack [x.2] := by simp [pack]
        rw [packS_snoc HX.out, e, ← List.append_assoc, ← List.append_assoc]
        exact H3.out.1
      case measure => simp [intOf] <;> omega
    · obtain rfl : j = p.sn := by omega
      have hI : ¬ (p.sn : Int) < (p.sn : Int) := by omega
      have hD : decide ((p.sn : Int) < (p.sn : Int)) = false := by simp
      have h0 := HJ.out.1
      rw [List.take_of_length_le (by rw [HSN.out]; exact Nat.le_refl _)] at h0
      have HJ1 := Lib.hid h0
      clear h0
      have h0 := HLN.out
      rw [List.take_of_length_le (by rw [HSN.out]; exact Nat.le_refl _)] at h0
      have HLW := Lib.hid (putList_b (cap := p.ec) HJ1.out HJ.out.2.2.1 (fun w1 hc => (HIN.out w1 (HJ.out.2.1.trans hc)).re) (by have h2 := HV.out.2.2.2.2.2; have h3 := (HIN.out w (ChT.refl _ _ _)).re.lenI; omega) (by omega) (all_in HV.out.2.2.2.2.1))
      clear h0
      go_wp2_with (go_at_call 82; refine HLW.out.mono ?_; rintro _ y9 ⟨u9, rfl, ho1, hc1⟩; have H3 := Lib.hid (And.intro ho1 (HJ.out.2.1.trans hc1)); clear ho1 hc1; go_simp)
      go_ret
      have e : pack [p.base, (p.sn : Int)] = pack [p.base] ++ pack [(p.sn : Int)] := by simp [pack]
      refine ⟨u9, rfl, ?_, H3.out.2⟩
      have h := H3.out.1
      rw [e]; simpa only [List.append_assoc] using h
set_option maxRecDepth 100000 in
set_option maxHeartbeats 3200000 in
theorem rpart_7 {base B : Nat} {v : Value} {bs : List UInt8} {p : Pk} {D : PkD} {w : World} (hk1 : p.k = 7) (hk2 : forwardB p.g1 p.g2 p.g3 p.g4 D.msgs = true) (hW : w.ownsRow base 5 1 v bs.length (bvs bs)) (hb0 : base ≤ w.heap.size) (hin : InR w base B p D) (hn : bs.length ≤ 100000) :
    Calls Tryd.prog 34 #[v, .agg p.cells] w (BtP w base (bs ++ (packI p.g1 p.g2 p.g3 p.g4 ++ pack [(p.mn : Int)] ++ packM D.msgs))) := by
  have hv : wholeB p.g1 p.g2 p.g3 p.g4 = true ∧ (∀ m ∈ D.msgs, msgB m = true) ∧ D.msgs.length ≤ 128 := by
    simp only [forwardB, Bool.and_eq_true, decide_eq_true_eq] at hk2
    obtain ⟨⟨⟨h1, h2⟩, _⟩, h4⟩ := hk2
    exact ⟨h2, rises_all h1, h4⟩
  have HSN : Hid (D.msgs.length = p.mn) := Lib.hid (hin w (ChT.refl _ _ _)).rm.1
  have HBL : Hid (∀ m ∈ D.msgs, m.body.length ≤ 256) := Lib.hid fun m hm => by
    have h1 := ((hin w (ChT.refl _ _ _)).rm.2.1 m hm).rd.lenB
    have h2 := (msgB_bd (hv.2.1 m hm)).2.2.2
    omega
  have hmn : p.mn ≤ 128 := by have := HSN.out; have := hv.2.2; omega
  have HV := Lib.hid hv
  have HIN := Lib.hid hin
  obtain ⟨wa, hwa⟩ : ∃ wa, wa = w.alloc (.cells p.cells 45) := ⟨_, rfl⟩
  have HA : Hid (Below w.heap.size w wa ∧ Blk wa w.heap.size 45 p.cells) := Lib.hid ⟨by rw [hwa]; exact one_box _ _, by rw [hwa]; exact Blk.new _ _ _⟩
  obtain ⟨sA, hsA⟩ : ∃ a, a = p.mA := ⟨_, rfl⟩
  have HSA := Lib.hid hsA
  clear hsA
  have c0 : wa.cell? ⟨w.heap.size, 0, none⟩ = some (.int .i64 7) := by rw [HA.out.2.cell]; exact congrArg (fun z => some (Value.int .i64 z)) hk1
  obtain ⟨bx, hbx⟩ : ∃ x, x = w.heap.size := ⟨_, rfl⟩
  have HS0 : Hid (wa.ownsRow base 5 1 v bs.length (bvs bs) ∧ ChT [5] base w wa ∧ base ≤ wa.heap.size ∧ Blk wa bx 45 p.cells ∧ bs.length ≤ 100000) := Lib.hid ⟨own_over hW HA.out.1, ChT.of_below HA.out.1, Nat.le_trans hb0 HA.out.1.size, hbx ▸ HA.out.2, hn⟩
  have HBX : Hid (w.heap.size = bx) := Lib.hid hbx.symm
  rw [← hbx] at c0
  clear hbx
  have HWA := Lib.hid hwa
  clear hwa hW hin hv hk2
  have c40 : wa.cell? ⟨bx, 40, none⟩ = some (.int .i64 p.g1) := HS0.out.2.2.2.1.cell 40
  have c41 : wa.cell? ⟨bx, 41, none⟩ = some (.int .i64 p.g2) := HS0.out.2.2.2.1.cell 41
  have c42 : wa.cell? ⟨bx, 42, none⟩ = some (.int .i64 p.g3) := HS0.out.2.2.2.1.cell 42
  have c43 : wa.cell? ⟨bx, 43, none⟩ = some (.int .i64 p.g4) := HS0.out.2.2.2.1.cell 43
  have c44 : wa.cell? ⟨bx, 44, none⟩ = some (.slice sA p.mn p.mc) := (by rw [HS0.out.2.2.2.1.cell, HSA.out]; rfl)
  go_enter Tryd.func34, Tryd.ntmps34
  go_upto_region 1 with fail
  rw [← HWA.out]
  rw [HBX.out]
  go_upto_region 37 with (first | (go_at_call 33; refine (put_b (x := (p.mn : Int)) HS1.out.1 HS1.out.2.2.1 (by have := HS1.out.2.2.2.2; omega) (by omega)).mono ?_; rintro _ y1 ⟨v1, rfl, ho1, hc1⟩; have hbk : Blk y1 bx 45 p.cells := HS1.out.2.2.2.1.cht hc1 (.inl (by decide)); have HS2 : Hid (y1.ownsRow base 5 1 v1 (((bs) ++ (packI p.g1 p.g2 p.g3 p.g4)) ++ (pack [(p.mn : Int)])).length (bvs (((bs) ++ (packI p.g1 p.g2 p.g3 p.g4)) ++ (pack [(p.mn : Int)]))) ∧ ChT [5] base w y1 ∧ base ≤ y1.heap.size ∧ Blk y1 bx 45 p.cells ∧ (((bs) ++ (packI p.g1 p.g2 p.g3 p.g4)) ++ (pack [(p.mn : Int)])).length ≤ 100045) := Lib.hid ⟨ho1, HS1.out.2.1.trans hc1, Nat.le_trans HS1.out.2.2.1 (ChT.size hc1), hbk, pack_len (k := 1) HS1.out.2.2.2.2 (by simp)⟩; have e40 : y1.cell? ⟨bx, 40, none⟩ = some (.int .i64 p.g1) := hbk.cell 40; have e41 : y1.cell? ⟨bx, 41, none⟩ = some (.int .i64 p.g2) := hbk.cell 41; have e42 : y1.cell? ⟨bx, 42, none⟩ = some (.int .i64 p.g3) := hbk.cell 42; have e43 : y1.cell? ⟨bx, 43, none⟩ = some (.int .i64 p.g4) := hbk.cell 43; have e44 : y1.cell? ⟨bx, 44, none⟩ = some (.slice sA p.mn p.mc) := (by rw [hbk.cell, HSA.out]; rfl); clear ho1 hc1 hbk; go_simp) | (go_at_call 83; refine (putID_b HS0.out.1 HS0.out.2.2.1 (by have := HS0.out.2.2.2.2; omega) (.inl HV.out.1)).mono ?_; rintro _ y0 ⟨v0, rfl, ho1, hc1⟩; have hbk : Blk y0 bx 45 p.cells := HS0.out.2.2.2.1.cht hc1 (.inl (by decide)); have HS1 : Hid (y0.ownsRow base 5 1 v0 ((bs) ++ (packI p.g1 p.g2 p.g3 p.g4)).length (bvs ((bs) ++ (packI p.g1 p.g2 p.g3 p.g4))) ∧ ChT [5] base w y0 ∧ base ≤ y0.heap.size ∧ Blk y0 bx 45 p.cells ∧ ((bs) ++ (packI p.g1 p.g2 p.g3 p.g4)).length ≤ 100036) := Lib.hid ⟨ho1, HS0.out.2.1.trans hc1, Nat.le_trans HS0.out.2.2.1 (ChT.size hc1), hbk, packI_len HS0.out.2.2.2.2⟩; have e40 : y0.cell? ⟨bx, 40, none⟩ = some (.int .i64 p.g1) := hbk.cell 40; have e41 : y0.cell? ⟨bx, 41, none⟩ = some (.int .i64 p.g2) := hbk.cell 41; have e42 : y0.cell? ⟨bx, 42, none⟩ = some (.int .i64 p.g3) := hbk.cell 42; have e43 : y0.cell? ⟨bx, 43, none⟩ = some (.int .i64 p.g4) := hbk.cell 43; have e44 : y0.cell? ⟨bx, 44, none⟩ = some (.slice sA p.mn p.mc) := (by rw [hbk.cell, HSA.out]; rfl); clear ho1 hc1 hbk; go_simp))
  go_wp2_with fail
  go_loopw [0, 8] (fun u i wr => ∃ j : Nat, j ≤ p.mn ∧ i = .int .i64 (j : Int) ∧ Hid (wr.ownsRow base 5 1 u ((((bs) ++ (packI p.g1 p.g2 p.g3 p.g4)) ++ (pack [(p.mn : Int)])) ++ packM (D.msgs.take j)).length (bvs ((((bs) ++ (packI p.g1 p.g2 p.g3 p.g4)) ++ (pack [(p.mn : Int)])) ++ packM (D.msgs.take j))) ∧ ChT [5] base w wr ∧ base ≤ wr.heap.size ∧ Blk wr bx 45 p.cells)) (fun _ i _ => p.mn - (intOf i).toNat)
  case atStart => exact ⟨0, by omega, rfl, Lib.hid ⟨by simpa [packM] using HS2.out.1, HS2.out.2.1, HS2.out.2.2.1, HS2.out.2.2.2.1⟩⟩
  case round =>
    obtain ⟨j, hj, rfl, HJ⟩ := hrel
    have HLN : Hid (((((bs) ++ (packI p.g1 p.g2 p.g3 p.g4)) ++ (pack [(p.mn : Int)])) ++ packM (D.msgs.take j)).length ≤ 140000) := Lib.hid (by
      have h1 := HS2.out.2.2.2.2
      have h2 := packM_le (D.msgs.take j) fun m hm => HBL.out m (List.mem_of_mem_take hm)
      have h3 : (D.msgs.take j).length ≤ j := by rw [List.length_take]; omega
      rw [List.length_append]
      omega)
    have r40 : wr.cell? ⟨bx, 40, none⟩ = some (.int .i64 p.g1) := HJ.out.2.2.2.cell 40
    have r41 : wr.cell? ⟨bx, 41, none⟩ = some (.int .i64 p.g2) := HJ.out.2.2.2.cell 41
    have r42 : wr.cell? ⟨bx, 42, none⟩ = some (.int .i64 p.g3) := HJ.out.2.2.2.cell 42
    have r43 : wr.cell? ⟨bx, 43, none⟩ = some (.int .i64 p.g4) := HJ.out.2.2.2.cell 43
    have r44 : wr.cell? ⟨bx, 44, none⟩ = some (.slice sA p.mn p.mc) := (by rw [HJ.out.2.2.2.cell, HSA.out]; rfl)
    by_cases hlt : j < p.mn
    · have hI : (j : Int) < (p.mn : Int) := by omega
      obtain ⟨x, hx⟩ : ∃ x, D.msgs[j]? = some x := ⟨_, List.getElem?_eq_getElem (by rw [HSN.out]; exact hlt)⟩
      have HX := Lib.hid hx
      obtain ⟨b, off, he, hbl, hcl⟩ := (HIN.out wr HJ.out.2.1).rm.2.2 (by omega)
      obtain ⟨m0, m1, m2, m3⟩ := hcl j x hx
      have HMB := Lib.hid (msgB_bd (HV.out.2.1 x (List.mem_of_getElem? hx)))
      rw [← HSA.out] at he
      subst he
      have HPK := Lib.hid (putData_b (cap := x.cap) HJ.out.1 HJ.out.2.2.1 (fun w1 hc => ((HIN.out w1 (HJ.out.2.1.trans hc)).rm.2.1 x (List.mem_of_getElem? HX.out)).rd) (by have := HLN.out; have := HMB.out.2.2.2; omega) HMB.out.1 HMB.out.2.1 HMB.out.2.2.1)
      clear hx hcl
      go_wp2_with (go_at_call 85; refine HPK.out.mono ?_; rintro _ y7 ⟨u7, rfl, ho1, hc1⟩; have H3 := Lib.hid (And.intro ho1 hc1); clear ho1 hc1; go_simp)
      go_roundw
      case rel =>
        refine ⟨j + 1, by omega, by go_num, Lib.hid ⟨?_, HJ.out.2.1.trans H3.out.2, Nat.le_trans HJ.out.2.2.1 (ChT.size H3.out.2), HJ.out.2.2.2.cht H3.out.2 (.inl (by decide))⟩⟩
        rw [packM_snoc HX.out, ← List.append_assoc]
        exact H3.out.1
      case measure => simp [intOf] <;> omega
    · obtain rfl : j = p.mn := by omega
      have hI : ¬ (p.mn : Int) < (p.mn : Int) := by omega
      have hD : decide ((p.mn : Int) < (p.mn : Int)) = false := by simp
      have h0 := HJ.out.1
      rw [List.take_of_length_le (by rw [HSN.out]; exact Nat.le_refl _)] at h0
      have HJ1 := Lib.hid h0
      clear h0
      go_wp2_with fail
      go_ret
      refine ⟨_, rfl, ?_, HJ.out.2.1⟩
      have h := HJ1.out
      simp only [List.append_assoc] at h
      exact h
theorem rpart_any {base B : Nat} {v : Value} {bs : List UInt8} {p : Pk} {D : PkD} {w : World} (hk2 : kindB p D = true) (hW : w.ownsRow base 5 1 v bs.length (bvs bs)) (hb0 : base ≤ w.heap.size) (hin : InR w base B p D) (hn : bs.length ≤ 100000) :
    Calls Tryd.prog 34 #[v, .agg p.cells] w (BtP w base (bs ++ partB p D)) := by
  rcases kindB_k hk2 with hk | hk | hk | hk | hk | hk | hk
  · have e : partB p D = pack [p.tk] ++ packL D.hears := by simp [partB, hk]
    rw [e]
    exact rpart_1 hk (by simpa [kindB, hk] using hk2) hW hb0 hin hn
  · have e : partB p D = packL D.set ++ pack [p.cid, p.rev, p.top] ++ packI p.p1 p.p2 p.p3 p.p4 ++ packL D.vec := by simp [partB, hk]
    rw [e]
    exact rpart_2 hk (by simpa [kindB, hk] using hk2) hW hb0 hin hn
  · have e : partB p D = packI p.f1 p.f2 p.f3 p.f4 ++ pack [p.base, (p.sn : Int)] ++ packS D.slots ++ packL D.got := by simp [partB, hk]
    rw [e]
    exact rpart_3 hk (by simpa [kindB, hk] using hk2) hW hb0 hin hn
  · have e : partB p D = packI p.w1 p.w2 p.w3 p.w4 ++ pack [p.done, p.pfx] := by simp [partB, hk]
    rw [e]
    exact rpart_4 hk (by simpa [kindB, hk] using hk2) hW hb0 hin hn
  · have e : partB p D = packI p.t1 p.t2 p.t3 p.t4 ++ pack [p.seq] ++ packB D.body := by simp [partB, hk]
    rw [e]
    exact rpart_5 hk (by simpa [kindB, hk] using hk2) hW hb0 hin hn
  · have e : partB p D = packI p.a1 p.a2 p.a3 p.a4 ++ pack [p.upto] := by simp [partB, hk]
    rw [e]
    exact rpart_6 hk (by simpa [kindB, hk] using hk2) hW hb0 hin hn
  · have e : partB p D = packI p.g1 p.g2 p.g3 p.g4 ++ pack [(p.mn : Int)] ++ packM D.msgs := by simp [partB, hk]
    rw [e]
    exact rpart_7 hk (by simpa [kindB, hk] using hk2) hW hb0 hin hn
end Go.Proofs.YtffcepaegcllmaaDoor
