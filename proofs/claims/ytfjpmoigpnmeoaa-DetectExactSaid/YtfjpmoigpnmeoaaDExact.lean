/-
  DetectExact, walked.
-/
import Derived.Test.YtfjpmoigpnmeoaaDOps
namespace Go.Proofs.Ytfjpmoigpnmeoaa
open Go.RowKit
set_option maxRecDepth 100000 in
set_option maxHeartbeats 6400000 in
theorem DetectExact_core (x0 x1 x2 x3 x4 x5 : Int) (A1 : Option Addr) (n1 k1 : Nat) (w : World) (hn0 : -9223372036854775808 ≤ x0) (hn1 : x0 ≤ 9223372036854775807) (hle : n1 ≤ k1) (hcap : k1 * 56 ≤ 140737488351232) (HO : Hid (Ops w w.heap.size A1 n1)) :
    Calls Try.prog 7 #[.agg #[.int .i64 x0, .int .i64 x1, .int .i64 x2, .int .i64 x3, .int .i64 x4, .int .i64 x5, .slice A1 n1 k1]] w (AsksOk w) := by
  by_cases hok : NewOk x0 x1 x2 x3 x4 x5
  · obtain ⟨c, hc, rfl, rfl, rfl, rfl, rfl, rfl⟩ := hok.cfg
    have hb0 := one_box' w (.cells #[.int .i64 (c.n : Int), .int .i64 (c.self : Int), .int .i64 c.inc, .int .i64 c.base, .int .i64 c.step, .int .i64 c.lim, .slice A1 n1 k1] 27)
    have hR := Blk.new w 27 #[.int .i64 (c.n : Int), .int .i64 (c.self : Int), .int .i64 c.inc, .int .i64 c.base, .int .i64 c.step, .int .i64 c.lim, .slice A1 n1 k1]
    obtain ⟨w0, hw0⟩ : ∃ w0, w0 = w.alloc (.cells #[.int .i64 (c.n : Int), .int .i64 (c.self : Int), .int .i64 c.inc, .int .i64 c.base, .int .i64 c.step, .int .i64 c.lim, .slice A1 n1 k1] 27) := ⟨_, rfl⟩
    rw [← hw0] at hb0 hR
    have HW := Lib.hid hw0
    have hs0 := hb0.size
    have HOP : Hid (Ops w0 w.heap.size A1 n1) := HO.out.below hb0
    have HR := Lib.hid hR
    have r0 : w0.cell? ⟨w.heap.size, 0, none⟩ = some (.int .i64 (c.n : Int)) := hR.cell 0
    have r1 : w0.cell? ⟨w.heap.size, 1, none⟩ = some (.int .i64 (c.self : Int)) := hR.cell 1
    have r2 : w0.cell? ⟨w.heap.size, 2, none⟩ = some (.int .i64 c.inc) := hR.cell 2
    have r3 : w0.cell? ⟨w.heap.size, 3, none⟩ = some (.int .i64 c.base) := hR.cell 3
    have r4 : w0.cell? ⟨w.heap.size, 4, none⟩ = some (.int .i64 c.step) := hR.cell 4
    have r5 : w0.cell? ⟨w.heap.size, 5, none⟩ = some (.int .i64 c.lim) := hR.cell 5
    have r6 : w0.cell? ⟨w.heap.size, 6, none⟩ = some (.slice A1 n1 k1) := hR.cell 6
    have HC := Lib.hid hc
    clear hw0 hR hok hc
    go_enter Try.func7, Try.ntmps7
    go_upto_region 1 with fail
    rw [← HW.out]
    go_wp2_with fail
    refine (made_yes HC.out A1 n1 k1).mono ?_
    rintro _ w1 ⟨D, K, F, rfl, hp, hF, hb1⟩
    have HPF : Hid (Pair w1 F c D K [] ∧ (∀ k, F k → w0.heap.size ≤ k) ∧ ([] : List Ev).length ≤ 0) := ⟨hp, hF, by simp⟩
    clear hp hF r0 r1 r2 r3 r4 r5 r6
    go_wp2_with fail
    go_loopw [6] (fun i wr => ∃ (k : Nat) (F : Nat → Prop) (l : List Ev), k ≤ n1 ∧ i = .int .i64 (k : Int) ∧ Hid (Pair wr F c D K l ∧ (∀ k, F k → w0.heap.size ≤ k) ∧ l.length ≤ k) ∧ Below w0.heap.size w0 wr) (fun i _ => n1 - (intOf i).toNat)
    case atStart => exact ⟨0, F, [], by omega, rfl, HPF, hb1⟩
    case round =>
      clear HPF hb1
      obtain ⟨k, F, l, hk, rfl, HPF, hb⟩ := hrel
      have hRr := HR.out.over hb
      have r0 : wr.cell? ⟨w.heap.size, 0, none⟩ = some (.int .i64 (c.n : Int)) := hRr.cell 0
      have r6 : wr.cell? ⟨w.heap.size, 6, none⟩ = some (.slice A1 n1 k1) := hRr.cell 6
      have hll : l.length < 3518437208883 := by have := HPF.out.2.2; omega
      have hsr := hb.size
      by_cases hlt : k < n1
      · have hI : (k : Int) < (n1 : Int) := by omega
        obtain ⟨b, off, rfl, hbl, hops⟩ := (HOP.out.below (hb.mono hs0)) (by omega)
        obtain ⟨kd, q, inc, tick, Ac, nc, capc, hs, hop⟩ := hops k hlt
        have o0 := hop.c0
        have o1 := hop.c1
        have o2 := hop.c2
        have o3 := hop.c3
        have o4 := hop.c4
        have hcp := hop.cap
        have hX := Blk.new wr 61 #[.int .i64 kd, .int .i64 q, .int .i64 inc, .int .i64 tick, .slice Ac nc capc]
        have hbx := one_box' wr (.cells #[.int .i64 kd, .int .i64 q, .int .i64 inc, .int .i64 tick, .slice Ac nc capc] 61)
        have hpx := HPF.out.1.below hbx
        have hrx := (hop.rd.below (hbx.mono (show w.heap.size ≤ wr.heap.size by omega)))
        obtain ⟨wx, hwx⟩ : ∃ wx, wx = wr.alloc (.cells #[.int .i64 kd, .int .i64 q, .int .i64 inc, .int .i64 tick, .slice Ac nc capc] 61) := ⟨_, rfl⟩
        rw [← hwx] at hX hbx hpx hrx
        have HWX := Lib.hid hwx
        have hsx := hbx.size
        have HD := Lib.hid (does_any Ac nc capc hs kd q inc tick HC.out hpx hll (hrx.more (by omega)) hcp (fun hp b' o' s' e h => by
          obtain ⟨b2, o2, e', hlt', _⟩ := hrx.at_ hp
          rw [e] at e'; injection e' with e'; injection e' with e'
          have := HPF.out.2.1 b' h
          omega))
        have HX := Lib.hid hX
        have HFW : Hid (¬ F wr.heap.size) := Lib.hid fun h => by
          obtain ⟨_, _, _, _, _, _, _, h6⟩ := HPF.out.1
          have := h6 _ h; omega
        have x0 : wx.cell? ⟨wr.heap.size, 0, none⟩ = some (.int .i64 kd) := hX.cell 0
        have x1 : wx.cell? ⟨wr.heap.size, 1, none⟩ = some (.int .i64 q) := hX.cell 1
        have x2 : wx.cell? ⟨wr.heap.size, 2, none⟩ = some (.int .i64 inc) := hX.cell 2
        have x3 : wx.cell? ⟨wr.heap.size, 3, none⟩ = some (.int .i64 tick) := hX.cell 3
        have x4 : wx.cell? ⟨wr.heap.size, 4, none⟩ = some (.slice Ac nc capc) := hX.cell 4
        clear hwx hX hpx hrx hop hops
        go_upto_region 8 with fail
        rw [← HWX.out]
        clear o0 o1 o2 o3 o4
        go_wp2_with fail
        refine HD.out.mono ?_
        rintro _ w3 ⟨rfl, F', l', hp', hl', hm⟩
        have hX3 := HX.out.chg hm.2 HFW.out
        have hll' : l'.length < 3518437208883 := by have := HPF.out.2.2; omega
        have HT := Lib.hid (tells_any Ac nc capc kd q inc tick HC.out hp' hll')
        have HM := Lib.hid (And.intro hp' (And.intro hl' hm))
        clear x0 x1 x2 x3 x4
        have x0 : w3.cell? ⟨wr.heap.size, 0, none⟩ = some (.int .i64 kd) := hX3.cell 0
        have x1 : w3.cell? ⟨wr.heap.size, 1, none⟩ = some (.int .i64 q) := hX3.cell 1
        have x2 : w3.cell? ⟨wr.heap.size, 2, none⟩ = some (.int .i64 inc) := hX3.cell 2
        have x3 : w3.cell? ⟨wr.heap.size, 3, none⟩ = some (.int .i64 tick) := hX3.cell 3
        have x4 : w3.cell? ⟨wr.heap.size, 4, none⟩ = some (.slice Ac nc capc) := hX3.cell 4
        clear hp' hl' hm hX3
        go_wp2_with fail
        refine HT.out.mono ?_
        rintro _ w4 ⟨rfl, hb4⟩
        have HN : Hid ((Pair w4 F' c D K l' ∧ (∀ k, F' k → w0.heap.size ≤ k) ∧ l'.length ≤ k + 1) ∧ Below w0.heap.size w0 w4) := by
          obtain ⟨hp', hl', hm⟩ := HM.out
          refine Lib.hid ⟨⟨hp'.below hb4, fun i hi => ?_, by have := HPF.out.2.2; omega⟩, ((hb.trans (hbx.mono hsr)).trans (hm.2.to_below (by omega) (fun i hi => HPF.out.2.1 i hi))).trans (hb4.mono (by have := hm.2.size; omega))⟩
          rcases hm.1 i hi with h | h
          · exact HPF.out.2.1 i h
          · omega
        clear x0 x1 x2 x3 x4
        go_wp2
        go_roundw
        case rel => exact ⟨k + 1, F', l', by omega, by go_num, HN.out.1, HN.out.2⟩
        case measure => simp [intOf] <;> omega
      · have HAL := Lib.hid (all_any HC.out HPF.out.1 hll)
        go_wp2_with fail
        refine HAL.out.mono ?_
        rintro _ w4 ⟨rfl, hb4⟩
        go_wp2
        go_ret
        exact ⟨rfl, hb0.trans ((hb.trans (hb4.mono hsr)).mono hs0)⟩
  · have hb0 := one_box' w (.cells #[.int .i64 x0, .int .i64 x1, .int .i64 x2, .int .i64 x3, .int .i64 x4, .int .i64 x5, .slice A1 n1 k1] 27)
    have HK := Lib.hid hok
    have hs0 := hb0.size
    clear hok
    go_enter Try.func7, Try.ntmps7
    go_wp2_with fail
    refine (made_no x0 x1 x2 x3 x4 x5 HK.out hn0 hn1 A1 n1 k1).mono ?_
    rintro _ w1 ⟨rfl, hb1⟩
    go_wp2
    go_ret
    exact ⟨rfl, hb0.trans (hb1.mono hs0)⟩
theorem DetectExact_walk {H : Type} {enc : TypeId × Value → H} (x0 x1 x2 x3 x4 x5 : Int) (A6 : Option Addr) (n6 k6 : Nat) (x6 : List (List Value)) (w : World) (b0 : -9223372036854775808 ≤ x0) (t0 : x0 ≤ 9223372036854775807) (_b1 : -9223372036854775808 ≤ x1) (_t1 : x1 ≤ 9223372036854775807) (_b2 : -9223372036854775808 ≤ x2) (_t2 : x2 ≤ 9223372036854775807) (_b3 : -9223372036854775808 ≤ x3) (_t3 : x3 ≤ 9223372036854775807) (_b4 : -9223372036854775808 ≤ x4) (_t4 : x4 ≤ 9223372036854775807) (_b5 : -9223372036854775808 ≤ x5) (_t5 : x5 ≤ 9223372036854775807) (p6 : n6 ≤ k6) (q6 : k6 * 56 ≤ 140737488351232) (l6 : x6.length = n6) (r6 : Rd w w.heap.size 5 A6 n6 x6.flatten) (s6 : ∀ y ∈ x6, y.length = 5 ∧ ∃ d, Fit enc Try.prog w 61 y d) :
    Calls Try.prog 7 #[.agg #[.int .i64 x0, .int .i64 x1, .int .i64 x2, .int .i64 x3, .int .i64 x4, .int .i64 x5, .slice A6 n6 k6]] w (AsksOk w) :=
  DetectExact_core x0 x1 x2 x3 x4 x5 A6 n6 k6 w b0 t0 p6 q6 (Lib.hid (ops_open l6 r6 s6))
end Go.Proofs.Ytfjpmoigpnmeoaa
