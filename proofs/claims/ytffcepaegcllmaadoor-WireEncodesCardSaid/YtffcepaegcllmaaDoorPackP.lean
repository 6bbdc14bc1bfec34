/-
  A packet with other lists of the same lengths; the reference's SamePacket tells two alike ones so.
-/
import Derived.Test.YtffcepaegcllmaaDoorPackD
import Derived.Deep.CutBlock
namespace Go.Proofs.YtffcepaegcllmaaDoor
open Go.RowKit
/-- The packet, its lists elsewhere. -/
abbrev Pk.lay (p : Pk) (hA : Option Addr) (hc : Nat) (pA : Option Addr) (pc : Nat) (vA : Option Addr) (vc : Nat) (sA : Option Addr) (sc : Nat) (eA : Option Addr) (ec : Nat) (bA : Option Addr) (bc : Nat) (mA : Option Addr) (mc : Nat) : Pk :=
  { p with hA := hA, hc := hc, pA := pA, pc := pc, vA := vA, vc := vc, sA := sA, sc := sc, eA := eA, ec := ec, bA := bA, bc := bc, mA := mA, mc := mc }
set_option maxRecDepth 100000 in
set_option maxHeartbeats 6400000 in
theorem SamePacket_yes (p : Pk) {hA : Option Addr} {hc : Nat} {pA : Option Addr} {pc : Nat} {vA : Option Addr} {vc : Nat} {sA : Option Addr} {sc : Nat} {eA : Option Addr} {ec : Nat} {bA : Option Addr} {bc : Nat} {mA : Option Addr} {mc : Nat} (D : PkD) (ml : List Msg) (w : World) (hp : PkIn w w.heap.size p D) (hq : PkIn w w.heap.size (p.lay hA hc pA pc vA vc sA sc eA ec bA bc mA mc) { D with msgs := ml }) (hm : D.msgs.map Msg.key = ml.map Msg.key) (hle : PkLe p) :
    Calls Tryd.prog 15 #[.agg p.cells, .agg (p.lay hA hc pA pc vA vc sA sc eA ec bA bc mA mc).cells] w fun r w' => r = .returned (.bool true) ∧ Below w.heap.size w w' := by
  have HP : Hid (∀ W, Below w.heap.size w W → PkIn W w.heap.size p D) := Lib.hid fun W hW => hp.below hW
  have HQ : Hid (∀ W, Below w.heap.size w W → PkIn W w.heap.size (p.lay hA hc pA pc vA vc sA sc eA ec bA bc mA mc) { D with msgs := ml }) := Lib.hid fun W hW => hq.below hW
  have HM := Lib.hid hm
  have HLE := Lib.hid hle
  clear hp hq hm hle
  go_enter Tryd.func15, Tryd.ntmps15
  go_upto_region 1 with fail
  obtain ⟨w2, hw2⟩ : ∃ x, x = (w.alloc (.cells p.cells 45)).alloc (.cells (p.lay hA hc pA pc vA vc sA sc eA ec bA bc mA mc).cells 45) := ⟨_, rfl⟩
  rw [← hw2]
  have HX : Hid (∀ W, Below w2.heap.size w2 W → Blk W w.heap.size 45 p.cells) := Lib.hid fun W hW => Blk.over (by rw [hw2]; exact (Blk.new _ _ _).alloc _) hW
  have HY : Hid (∀ W, Below w2.heap.size w2 W → Blk W (w.heap.size + 1) 45 (p.lay hA hc pA pc vA vc sA sc eA ec bA bc mA mc).cells) := Lib.hid fun W hW => Blk.over (by
    have h := Blk.new (w.alloc (.cells p.cells 45)) 45 (p.lay hA hc pA pc vA vc sA sc eA ec bA bc mA mc).cells
    rw [World.size_alloc] at h
    rw [hw2]
    exact h) hW
  have HB2 : Hid (Below w.heap.size w w2) := Lib.hid (by rw [hw2]; exact two_box _ _ _)
  clear hw2
  have HSZ : Hid (∀ W, Below w2.heap.size w2 W → Below w.heap.size w W ∧ w.heap.size ≤ W.heap.size) := Lib.hid fun W hW => ⟨Below.then HB2.out hW, (Below.then HB2.out hW).size⟩
  have HR2 : Hid (Below w2.heap.size w2 w2) := Lib.hid (Below.refl _ _)
  have x0 : w2.cell? ⟨w.heap.size, 0, none⟩ = some (.int .i64 p.k) := (HX.out w2 HR2.out).cell 0
  have y0 : w2.cell? ⟨w.heap.size + 1, 0, none⟩ = some (.int .i64 p.k) := (HY.out w2 HR2.out).cell 0
  have x1 : w2.cell? ⟨w.heap.size, 1, none⟩ = some (.int .i64 p.s) := (HX.out w2 HR2.out).cell 1
  have y1 : w2.cell? ⟨w.heap.size + 1, 1, none⟩ = some (.int .i64 p.s) := (HY.out w2 HR2.out).cell 1
  have x2 : w2.cell? ⟨w.heap.size, 2, none⟩ = some (.int .i64 p.si) := (HX.out w2 HR2.out).cell 2
  have y2 : w2.cell? ⟨w.heap.size + 1, 2, none⟩ = some (.int .i64 p.si) := (HY.out w2 HR2.out).cell 2
  have x3 : w2.cell? ⟨w.heap.size, 3, none⟩ = some (.int .i64 p.d) := (HX.out w2 HR2.out).cell 3
  have y3 : w2.cell? ⟨w.heap.size + 1, 3, none⟩ = some (.int .i64 p.d) := (HY.out w2 HR2.out).cell 3
  have x4 : w2.cell? ⟨w.heap.size, 4, none⟩ = some (.int .i64 p.di) := (HX.out w2 HR2.out).cell 4
  have y4 : w2.cell? ⟨w.heap.size + 1, 4, none⟩ = some (.int .i64 p.di) := (HY.out w2 HR2.out).cell 4
  have x5 : w2.cell? ⟨w.heap.size, 5, none⟩ = some (.int .i64 p.tk) := (HX.out w2 HR2.out).cell 5
  have y5 : w2.cell? ⟨w.heap.size + 1, 5, none⟩ = some (.int .i64 p.tk) := (HY.out w2 HR2.out).cell 5
  have x6 : w2.cell? ⟨w.heap.size, 6, none⟩ = some (.slice p.hA p.hn p.hc) := (HX.out w2 HR2.out).cell 6
  have y6 : w2.cell? ⟨w.heap.size + 1, 6, none⟩ = some (.slice hA p.hn hc) := (HY.out w2 HR2.out).cell 6
  go_upto_region 3 with (go_at_call 42; refine (SameInts_yes _ _ _ _ _ _ _ _ _ _ (HP.out w2 (HSZ.out w2 HR2.out).1).rh (HQ.out w2 (HSZ.out w2 HR2.out).1).rh (by have := HLE.out.lh; omega)).mono ?_; rintro _ w3 ⟨rfl, hb⟩; have HR3 := Lib.hid (Below.then HR2.out hb); clear hb; go_simp)
  clear x0 y0 x1 y1 x2 y2 x3 y3 x4 y4 x5 y5 x6 y6
  have x7 : w3.cell? ⟨w.heap.size, 7, none⟩ = some (.slice p.pA p.pn p.pc) := (HX.out w3 HR3.out).cell 7
  have y7 : w3.cell? ⟨w.heap.size + 1, 7, none⟩ = some (.slice pA p.pn pc) := (HY.out w3 HR3.out).cell 7
  have x8 : w3.cell? ⟨w.heap.size, 8, none⟩ = some (.int .i64 p.cid) := (HX.out w3 HR3.out).cell 8
  have y8 : w3.cell? ⟨w.heap.size + 1, 8, none⟩ = some (.int .i64 p.cid) := (HY.out w3 HR3.out).cell 8
  have x9 : w3.cell? ⟨w.heap.size, 9, none⟩ = some (.int .i64 p.rev) := (HX.out w3 HR3.out).cell 9
  have y9 : w3.cell? ⟨w.heap.size + 1, 9, none⟩ = some (.int .i64 p.rev) := (HY.out w3 HR3.out).cell 9
  have x10 : w3.cell? ⟨w.heap.size, 10, none⟩ = some (.int .i64 p.top) := (HX.out w3 HR3.out).cell 10
  have y10 : w3.cell? ⟨w.heap.size + 1, 10, none⟩ = some (.int .i64 p.top) := (HY.out w3 HR3.out).cell 10
  have x11 : w3.cell? ⟨w.heap.size, 11, none⟩ = some (.int .i64 p.p1) := (HX.out w3 HR3.out).cell 11
  have y11 : w3.cell? ⟨w.heap.size + 1, 11, none⟩ = some (.int .i64 p.p1) := (HY.out w3 HR3.out).cell 11
  have x12 : w3.cell? ⟨w.heap.size, 12, none⟩ = some (.int .i64 p.p2) := (HX.out w3 HR3.out).cell 12
  have y12 : w3.cell? ⟨w.heap.size + 1, 12, none⟩ = some (.int .i64 p.p2) := (HY.out w3 HR3.out).cell 12
  have x13 : w3.cell? ⟨w.heap.size, 13, none⟩ = some (.int .i64 p.p3) := (HX.out w3 HR3.out).cell 13
  have y13 : w3.cell? ⟨w.heap.size + 1, 13, none⟩ = some (.int .i64 p.p3) := (HY.out w3 HR3.out).cell 13
  have x14 : w3.cell? ⟨w.heap.size, 14, none⟩ = some (.int .i64 p.p4) := (HX.out w3 HR3.out).cell 14
  have y14 : w3.cell? ⟨w.heap.size + 1, 14, none⟩ = some (.int .i64 p.p4) := (HY.out w3 HR3.out).cell 14
  have x15 : w3.cell? ⟨w.heap.size, 15, none⟩ = some (.slice p.vA p.vn p.vc) := (HX.out w3 HR3.out).cell 15
  have y15 : w3.cell? ⟨w.heap.size + 1, 15, none⟩ = some (.slice vA p.vn vc) := (HY.out w3 HR3.out).cell 15
  go_upto_region 5 with (first | (go_at_call 43; refine (SamePropose_yes _ _ _ _ _ _ _ _ _ _ _ _ _ _ _ _ _ _ _ _ _ _ _ _ (HP.out w3 (HSZ.out w3 HR3.out).1).rp (HQ.out w3 (HSZ.out w3 HR3.out).1).rp (HP.out w3 (HSZ.out w3 HR3.out).1).rv (HQ.out w3 (HSZ.out w3 HR3.out).1).rv (HSZ.out w3 HR3.out).2 (HSZ.out w3 HR3.out).2 (by have := HLE.out.lp; omega) (by have := HLE.out.lv; omega)).mono ?_; rintro _ w4 ⟨rfl, hb⟩; have HR4 := Lib.hid (Below.then HR3.out hb); clear hb; have x16 : w4.cell? ⟨w.heap.size, 16, none⟩ = some (.int .i64 p.f1) := (HX.out w4 HR4.out).cell 16; have y16 : w4.cell? ⟨w.heap.size + 1, 16, none⟩ = some (.int .i64 p.f1) := (HY.out w4 HR4.out).cell 16; have x17 : w4.cell? ⟨w.heap.size, 17, none⟩ = some (.int .i64 p.f2) := (HX.out w4 HR4.out).cell 17; have y17 : w4.cell? ⟨w.heap.size + 1, 17, none⟩ = some (.int .i64 p.f2) := (HY.out w4 HR4.out).cell 17; have x18 : w4.cell? ⟨w.heap.size, 18, none⟩ = some (.int .i64 p.f3) := (HX.out w4 HR4.out).cell 18; have y18 : w4.cell? ⟨w.heap.size + 1, 18, none⟩ = some (.int .i64 p.f3) := (HY.out w4 HR4.out).cell 18; have x19 : w4.cell? ⟨w.heap.size, 19, none⟩ = some (.int .i64 p.f4) := (HX.out w4 HR4.out).cell 19; have y19 : w4.cell? ⟨w.heap.size + 1, 19, none⟩ = some (.int .i64 p.f4) := (HY.out w4 HR4.out).cell 19; have x20 : w4.cell? ⟨w.heap.size, 20, none⟩ = some (.int .i64 p.base) := (HX.out w4 HR4.out).cell 20; have y20 : w4.cell? ⟨w.heap.size + 1, 20, none⟩ = some (.int .i64 p.base) := (HY.out w4 HR4.out).cell 20; have x21 : w4.cell? ⟨w.heap.size, 21, none⟩ = some (.slice p.sA p.sn p.sc) := (HX.out w4 HR4.out).cell 21; have y21 : w4.cell? ⟨w.heap.size + 1, 21, none⟩ = some (.slice sA p.sn sc) := (HY.out w4 HR4.out).cell 21; have x22 : w4.cell? ⟨w.heap.size, 22, none⟩ = some (.slice p.eA p.en p.ec) := (HX.out w4 HR4.out).cell 22; have y22 : w4.cell? ⟨w.heap.size + 1, 22, none⟩ = some (.slice eA p.en ec) := (HY.out w4 HR4.out).cell 22; go_simp) | (go_at_call 44; refine (SameFlush_yes _ _ _ _ _ _ _ _ _ _ _ _ _ _ _ _ _ _ _ _ _ _ (HP.out w4 (HSZ.out w4 HR4.out).1).rs (HQ.out w4 (HSZ.out w4 HR4.out).1).rs (HP.out w4 (HSZ.out w4 HR4.out).1).re (HQ.out w4 (HSZ.out w4 HR4.out).1).re (HSZ.out w4 HR4.out).2 (HSZ.out w4 HR4.out).2 (by have := HLE.out.ls; omega) (by have := HLE.out.le; omega)).mono ?_; rintro _ w5 ⟨rfl, hb⟩; have HR5 := Lib.hid (Below.then HR4.out hb); clear hb; have x23 : w5.cell? ⟨w.heap.size, 23, none⟩ = some (.int .i64 p.w1) := (HX.out w5 HR5.out).cell 23; have y23 : w5.cell? ⟨w.heap.size + 1, 23, none⟩ = some (.int .i64 p.w1) := (HY.out w5 HR5.out).cell 23; have x24 : w5.cell? ⟨w.heap.size, 24, none⟩ = some (.int .i64 p.w2) := (HX.out w5 HR5.out).cell 24; have y24 : w5.cell? ⟨w.heap.size + 1, 24, none⟩ = some (.int .i64 p.w2) := (HY.out w5 HR5.out).cell 24; have x25 : w5.cell? ⟨w.heap.size, 25, none⟩ = some (.int .i64 p.w3) := (HX.out w5 HR5.out).cell 25; have y25 : w5.cell? ⟨w.heap.size + 1, 25, none⟩ = some (.int .i64 p.w3) := (HY.out w5 HR5.out).cell 25; have x26 : w5.cell? ⟨w.heap.size, 26, none⟩ = some (.int .i64 p.w4) := (HX.out w5 HR5.out).cell 26; have y26 : w5.cell? ⟨w.heap.size + 1, 26, none⟩ = some (.int .i64 p.w4) := (HY.out w5 HR5.out).cell 26; have x27 : w5.cell? ⟨w.heap.size, 27, none⟩ = some (.int .i64 p.done) := (HX.out w5 HR5.out).cell 27; have y27 : w5.cell? ⟨w.heap.size + 1, 27, none⟩ = some (.int .i64 p.done) := (HY.out w5 HR5.out).cell 27; have x28 : w5.cell? ⟨w.heap.size, 28, none⟩ = some (.int .i64 p.pfx) := (HX.out w5 HR5.out).cell 28; have y28 : w5.cell? ⟨w.heap.size + 1, 28, none⟩ = some (.int .i64 p.pfx) := (HY.out w5 HR5.out).cell 28; go_simp))
  clear x7 y7 x8 y8 x9 y9 x10 y10 x11 y11 x12 y12 x13 y13 x14 y14 x15 y15 x16 y16 x17 y17 x18 y18 x19 y19 x20 y20 x21 y21 x22 y22 x23 y23 x24 y24 x25 y25 x26 y26 x27 y27 x28 y28
  have x29 : w5.cell? ⟨w.heap.size, 29, none⟩ = some (.int .i64 p.t1) := (HX.out w5 HR5.out).cell 29
  have y29 : w5.cell? ⟨w.heap.size + 1, 29, none⟩ = some (.int .i64 p.t1) := (HY.out w5 HR5.out).cell 29
  have x30 : w5.cell? ⟨w.heap.size, 30, none⟩ = some (.int .i64 p.t2) := (HX.out w5 HR5.out).cell 30
  have y30 : w5.cell? ⟨w.heap.size + 1, 30, none⟩ = some (.int .i64 p.t2) := (HY.out w5 HR5.out).cell 30
  have x31 : w5.cell? ⟨w.heap.size, 31, none⟩ = some (.int .i64 p.t3) := (HX.out w5 HR5.out).cell 31
  have y31 : w5.cell? ⟨w.heap.size + 1, 31, none⟩ = some (.int .i64 p.t3) := (HY.out w5 HR5.out).cell 31
  have x32 : w5.cell? ⟨w.heap.size, 32, none⟩ = some (.int .i64 p.t4) := (HX.out w5 HR5.out).cell 32
  have y32 : w5.cell? ⟨w.heap.size + 1, 32, none⟩ = some (.int .i64 p.t4) := (HY.out w5 HR5.out).cell 32
  have x33 : w5.cell? ⟨w.heap.size, 33, none⟩ = some (.int .i64 p.seq) := (HX.out w5 HR5.out).cell 33
  have y33 : w5.cell? ⟨w.heap.size + 1, 33, none⟩ = some (.int .i64 p.seq) := (HY.out w5 HR5.out).cell 33
  have x34 : w5.cell? ⟨w.heap.size, 34, none⟩ = some (.slice p.bA p.bn p.bc) := (HX.out w5 HR5.out).cell 34
  have y34 : w5.cell? ⟨w.heap.size + 1, 34, none⟩ = some (.slice bA p.bn bc) := (HY.out w5 HR5.out).cell 34
  go_upto_region 7 with (go_at_call 45; refine (SameFrame_yes _ _ _ _ _ _ _ _ _ _ _ _ _ _ _ (HP.out w5 (HSZ.out w5 HR5.out).1).rb (HQ.out w5 (HSZ.out w5 HR5.out).1).rb (HSZ.out w5 HR5.out).2 (HSZ.out w5 HR5.out).2 (by have := HLE.out.lb; omega)).mono ?_; rintro _ w6 ⟨rfl, hb⟩; have HR6 := Lib.hid (Below.then HR5.out hb); clear hb; have x35 : w6.cell? ⟨w.heap.size, 35, none⟩ = some (.int .i64 p.a1) := (HX.out w6 HR6.out).cell 35; have y35 : w6.cell? ⟨w.heap.size + 1, 35, none⟩ = some (.int .i64 p.a1) := (HY.out w6 HR6.out).cell 35; have x36 : w6.cell? ⟨w.heap.size, 36, none⟩ = some (.int .i64 p.a2) := (HX.out w6 HR6.out).cell 36; have y36 : w6.cell? ⟨w.heap.size + 1, 36, none⟩ = some (.int .i64 p.a2) := (HY.out w6 HR6.out).cell 36; have x37 : w6.cell? ⟨w.heap.size, 37, none⟩ = some (.int .i64 p.a3) := (HX.out w6 HR6.out).cell 37; have y37 : w6.cell? ⟨w.heap.size + 1, 37, none⟩ = some (.int .i64 p.a3) := (HY.out w6 HR6.out).cell 37; have x38 : w6.cell? ⟨w.heap.size, 38, none⟩ = some (.int .i64 p.a4) := (HX.out w6 HR6.out).cell 38; have y38 : w6.cell? ⟨w.heap.size + 1, 38, none⟩ = some (.int .i64 p.a4) := (HY.out w6 HR6.out).cell 38; have x39 : w6.cell? ⟨w.heap.size, 39, none⟩ = some (.int .i64 p.upto) := (HX.out w6 HR6.out).cell 39; have y39 : w6.cell? ⟨w.heap.size + 1, 39, none⟩ = some (.int .i64 p.upto) := (HY.out w6 HR6.out).cell 39; go_simp)
  clear x29 y29 x30 y30 x31 y31 x32 y32 x33 y33 x34 y34 x35 y35 x36 y36 x37 y37 x38 y38 x39 y39
  have x40 : w6.cell? ⟨w.heap.size, 40, none⟩ = some (.int .i64 p.g1) := (HX.out w6 HR6.out).cell 40
  have y40 : w6.cell? ⟨w.heap.size + 1, 40, none⟩ = some (.int .i64 p.g1) := (HY.out w6 HR6.out).cell 40
  have x41 : w6.cell? ⟨w.heap.size, 41, none⟩ = some (.int .i64 p.g2) := (HX.out w6 HR6.out).cell 41
  have y41 : w6.cell? ⟨w.heap.size + 1, 41, none⟩ = some (.int .i64 p.g2) := (HY.out w6 HR6.out).cell 41
  have x42 : w6.cell? ⟨w.heap.size, 42, none⟩ = some (.int .i64 p.g3) := (HX.out w6 HR6.out).cell 42
  have y42 : w6.cell? ⟨w.heap.size + 1, 42, none⟩ = some (.int .i64 p.g3) := (HY.out w6 HR6.out).cell 42
  have x43 : w6.cell? ⟨w.heap.size, 43, none⟩ = some (.int .i64 p.g4) := (HX.out w6 HR6.out).cell 43
  have y43 : w6.cell? ⟨w.heap.size + 1, 43, none⟩ = some (.int .i64 p.g4) := (HY.out w6 HR6.out).cell 43
  have x44 : w6.cell? ⟨w.heap.size, 44, none⟩ = some (.slice p.mA p.mn p.mc) := (HX.out w6 HR6.out).cell 44
  have y44 : w6.cell? ⟨w.heap.size + 1, 44, none⟩ = some (.slice mA p.mn mc) := (HY.out w6 HR6.out).cell 44
  go_wp2_with (go_at_call 46; refine (SameDatas_yes _ _ _ _ _ _ _ _ _ _ _ (HP.out w6 (HSZ.out w6 HR6.out).1).rm (HQ.out w6 (HSZ.out w6 HR6.out).1).rm HM.out (HSZ.out w6 HR6.out).2 (HSZ.out w6 HR6.out).2 (by have := HLE.out.lm; omega)).mono ?_; rintro _ w7 ⟨rfl, hb⟩; have HR7 := Lib.hid (Below.then HR6.out hb); clear hb; go_simp)
  go_ret
  exact ⟨rfl, (HSZ.out w7 HR7.out).1⟩
end Go.Proofs.YtffcepaegcllmaaDoor
