/-
  DetectTurns, walked.
-/
import Derived.Test.YtfjpmoigpnmeoaaDTurT
namespace Go.Proofs.Ytfjpmoigpnmeoaa
open Go.ChangeShapes Go.WideShapes Go.ChangeAt Go.RowKit
set_option maxRecDepth 100000 in
set_option maxHeartbeats 12800000 in
theorem Turns_go {c1 c2 : Cfg} (hc1 : c1.Ok) (hc2 : c2.Ok) (A1 : Option Addr) (n1 k1 : Nat) (A2 : Option Addr) (n2 k2 : Nat) (w : World) (h1 : n1 ≤ 1048576) (h2 : n2 ≤ 1048576) (HO1 : Hid (OpsU w w.heap.size A1 n1)) (HO2 : Hid (OpsU w w.heap.size A2 n2)) :
    Calls Try.prog 9 #[.agg #[.int .i64 (c1.n : Int), .int .i64 (c1.self : Int), .int .i64 c1.inc, .int .i64 c1.base, .int .i64 c1.step, .int .i64 c1.lim, .slice A1 n1 k1], .agg #[.int .i64 (c2.n : Int), .int .i64 (c2.self : Int), .int .i64 c2.inc, .int .i64 c2.base, .int .i64 c2.step, .int .i64 c2.lim, .slice A2 n2 k2]] w (AsksOk w) := by
  obtain ⟨wA, hwA⟩ : ∃ wA, wA = w.alloc (.cells #[.int .i64 (c1.n : Int), .int .i64 (c1.self : Int), .int .i64 c1.inc, .int .i64 c1.base, .int .i64 c1.step, .int .i64 c1.lim, .slice A1 n1 k1] 27) := ⟨_, rfl⟩
  obtain ⟨w0, hw0⟩ : ∃ w0, w0 = wA.alloc (.cells #[.int .i64 (c2.n : Int), .int .i64 (c2.self : Int), .int .i64 c2.inc, .int .i64 c2.base, .int .i64 c2.step, .int .i64 c2.lim, .slice A2 n2 k2] 27) := ⟨_, rfl⟩
  have hbA : Below w.heap.size w wA := by rw [hwA]; exact one_box' w _
  have hb0 : Below wA.heap.size wA w0 := by rw [hw0]; exact one_box' wA _
  have hsA : wA.heap.size = w.heap.size + 1 := by rw [hwA]; simp
  have hX1 : Blk w0 w.heap.size 27 #[.int .i64 (c1.n : Int), .int .i64 (c1.self : Int), .int .i64 c1.inc, .int .i64 c1.base, .int .i64 c1.step, .int .i64 c1.lim, .slice A1 n1 k1] := by
    have := Blk.new w 27 #[.int .i64 (c1.n : Int), .int .i64 (c1.self : Int), .int .i64 c1.inc, .int .i64 c1.base, .int .i64 c1.step, .int .i64 c1.lim, .slice A1 n1 k1]
    rw [← hwA] at this
    exact this.over hb0
  have hX2 : Blk w0 (w.heap.size + 1) 27 #[.int .i64 (c2.n : Int), .int .i64 (c2.self : Int), .int .i64 c2.inc, .int .i64 c2.base, .int .i64 c2.step, .int .i64 c2.lim, .slice A2 n2 k2] := by
    have := Blk.new wA 27 #[.int .i64 (c2.n : Int), .int .i64 (c2.self : Int), .int .i64 c2.inc, .int .i64 c2.base, .int .i64 c2.step, .int .i64 c2.lim, .slice A2 n2 k2]
    rw [← hw0, hsA] at this
    exact this
  have hbw : Below w.heap.size w w0 := hbA.trans (hb0.mono hbA.size)
  have HX1 := Lib.hid fun (W : World) (hW : Below w0.heap.size w0 W) => hX1.over hW
  have HX2 := Lib.hid fun (W : World) (hW : Below w0.heap.size w0 W) => hX2.over hW
  have HOP1 : Hid (OpsU w0 w.heap.size A1 n1) := Lib.hid (HO1.out.below hbw)
  have HOP2 : Hid (OpsU w0 w.heap.size A2 n2) := Lib.hid (HO2.out.below hbw)
  have HBW := Lib.hid hbw
  have HWA := Lib.hid hwA
  have HW0 := Lib.hid hw0
  have hsw : w.heap.size ≤ w0.heap.size := hbw.size
  have p0 : w0.cell? ⟨w.heap.size, 0, none⟩ = some (.int .i64 (c1.n : Int)) := hX1.cell 0
  have p1 : w0.cell? ⟨w.heap.size, 1, none⟩ = some (.int .i64 (c1.self : Int)) := hX1.cell 1
  have p2 : w0.cell? ⟨w.heap.size, 2, none⟩ = some (.int .i64 c1.inc) := hX1.cell 2
  have p3 : w0.cell? ⟨w.heap.size, 3, none⟩ = some (.int .i64 c1.base) := hX1.cell 3
  have p4 : w0.cell? ⟨w.heap.size, 4, none⟩ = some (.int .i64 c1.step) := hX1.cell 4
  have p5 : w0.cell? ⟨w.heap.size, 5, none⟩ = some (.int .i64 c1.lim) := hX1.cell 5
  have p6 : w0.cell? ⟨w.heap.size, 6, none⟩ = some (.slice A1 n1 k1) := hX1.cell 6
  have HC1 := Lib.hid hc1
  have HC2 := Lib.hid hc2
  clear hwA hw0 hbA hb0 hsA hX1 hX2 hbw HO1 HO2 hc1 hc2
  go_enter Try.func9, Try.ntmps9
  go_upto_region 1 with fail
  rw [← HWA.out]
  rw [← HW0.out]
  go_wp2_with fail
  refine (made_yes HC1.out A1 n1 k1).mono ?_
  rintro _ wB ⟨D1, K1, F1, rfl, hp1, hF1, hbB⟩
  have hY := HX2.out wB hbB
  have q0 : wB.cell? ⟨w.heap.size + 1, 0, none⟩ = some (.int .i64 (c2.n : Int)) := hY.cell 0
  have q1 : wB.cell? ⟨w.heap.size + 1, 1, none⟩ = some (.int .i64 (c2.self : Int)) := hY.cell 1
  have q2 : wB.cell? ⟨w.heap.size + 1, 2, none⟩ = some (.int .i64 c2.inc) := hY.cell 2
  have q3 : wB.cell? ⟨w.heap.size + 1, 3, none⟩ = some (.int .i64 c2.base) := hY.cell 3
  have q4 : wB.cell? ⟨w.heap.size + 1, 4, none⟩ = some (.int .i64 c2.step) := hY.cell 4
  have q5 : wB.cell? ⟨w.heap.size + 1, 5, none⟩ = some (.int .i64 c2.lim) := hY.cell 5
  have q6 : wB.cell? ⟨w.heap.size + 1, 6, none⟩ = some (.slice A2 n2 k2) := hY.cell 6
  have HP1 := Lib.hid (And.intro hp1 hF1)
  have HBB := Lib.hid hbB
  clear hY hp1 hF1 hbB p0 p1 p2 p3 p4 p5 p6
  go_wp2_with fail
  refine (made_yes HC2.out A2 n2 k2).mono ?_
  rintro _ wC ⟨D2, K2, F2, rfl, hp2, hF2, hbC⟩
  have HP2 := Lib.hid (And.intro hp2 hF2)
  have HBC := Lib.hid hbC
  clear hp2 hF2 hbC q0 q1 q2 q3 q4 q5 q6
  go_upto_region 6 with fail
  obtain ⟨wD, hwD⟩ : ∃ wD, wD = wC.alloc (.cells #[.slice none 0 0, .slice none 0 0, .slice none 0 0, .slice none 0 0] 80) := ⟨_, rfl⟩
  have HWD := Lib.hid hwD
  rw [← HWD.out]
  have HTU : Hid (TuS w0 wD wC.heap.size c1 c2 D1 K1 D2 K2 0) := by
    have hbD : Below wC.heap.size wC wD := by rw [hwD]; exact one_box' wC _
    have hH : Blk wD wC.heap.size 80 #[.slice none 0 0, .slice none 0 0, .slice none 0 0, .slice none 0 0] := by
      have := Blk.new wC 80 #[.slice none 0 0, .slice none 0 0, .slice none 0 0, .slice none 0 0]
      rwa [← hwD] at this
    have a1 := (HP1.out.1.below HBC.out).below hbD
    have a2 := HP2.out.1.below hbD
    have l1 := HP1.out.1.lt
    have l2 := HP2.out.1.lt
    have s1 := HBB.out.size
    have s2 := HBC.out.size
    have hnil : ∀ {e : Nat}, wD.ownsRow w0.heap.size e 1 (.slice none 0 0) 0 [] := fun {e} => ⟨by simp, .inl ⟨rfl, rfl⟩⟩
    have nn : ∀ (F : Nat → Prop) (g : Nat), (Value.slice none 0 0).ownBlock = some g → ¬ F g := fun F g e => by simp [Value.ownBlock] at e
    refine Lib.hid ⟨⟨F1, F2, [], [], [], _, _, _, a1, a2, fun k h h' => ?_, HP1.out.2, fun k h => Nat.le_trans s1 (HP2.out.2 k h), Nat.le_refl _, Nat.le_refl _, Nat.le_refl _, fun k x h => by simp at h, ⟨hH, Nat.le_trans s1 s2, fun h => ?_, hnil, hnil, fun g e => by simp [Value.ownBlock] at e, fun k x h => by simp at h, fun k x h => by simp at h, hnil, fun k k' x x' h => by simp at h, fun k x h => by simp at h, ⟨nn _, nn _, nn _⟩, fun k x h => by simp at h⟩⟩, (HBB.out.trans (HBC.out.mono s1)).trans (hbD.mono (Nat.le_trans s1 s2))⟩
    · have := l1 k h
      have := HP2.out.2 k h'
      omega
    · rcases h with h | h
      · have := l1 _ h; omega
      · have := l2 _ h; omega
  clear hwD HP1 HP2
  generalize wC.heap.size = H at *
  go_wp2_with fail
  go_loopw [12] (fun i wr => ∃ j : Nat, j ≤ 90 ∧ i = .int .i64 (j : Int) ∧ Hid (TuS w0 wr H c1 c2 D1 K1 D2 K2 (2 * j))) (fun i _ => 90 - (intOf i).toNat)
  case atStart => exact ⟨0, by omega, rfl, HTU⟩
  case round =>
    clear HTU
    obtain ⟨j, hj, rfl, HT⟩ := hrel
    have p6 : wr.cell? ⟨w.heap.size, 6, none⟩ = some (.slice A1 n1 k1) := (HX1.out wr HT.out.chg).cell 6
    have q6 : wr.cell? ⟨w.heap.size + 1, 6, none⟩ = some (.slice A2 n2 k2) := (HX2.out wr HT.out.chg).cell 6
    go_upto_region 7 with fail
    go_cut [61] from 61 to 61 (fun t wc => ∃ b : Bool, t = .bool b ∧ Hid (b = decide ((j < n1 ∨ j < n2) ∧ j < 90)) ∧ Hid (wc = wr))
    case first =>
      by_cases a1 : j < n1
      · by_cases a3 : (j : Int) < 90
        · go_wp2_with fail
          go_meet
          exact ⟨true, rfl, Lib.hid (by simp; omega), Lib.hid rfl⟩
        · go_wp2_with fail
          go_meet
          exact ⟨false, rfl, Lib.hid (by simp; omega), Lib.hid rfl⟩
      · by_cases a2 : j < n2
        · by_cases a3 : (j : Int) < 90
          · go_wp2_with fail
            go_meet
            exact ⟨true, rfl, Lib.hid (by simp; omega), Lib.hid rfl⟩
          · go_wp2_with fail
            go_meet
            exact ⟨false, rfl, Lib.hid (by simp; omega), Lib.hid rfl⟩
        · go_wp2_with fail
          go_meet
          exact ⟨false, rfl, Lib.hid (by simp; omega), Lib.hid rfl⟩
    obtain ⟨bb, rfl, HB, hww⟩ := hcut
    obtain rfl := hww.out.symm
    clear hww
    cases bb with
    | true =>
      have hgo : (j < n1 ∨ j < n2) ∧ j < 90 := of_decide_eq_true HB.out.symm
      clear HB
      go_upto_region 9 with fail
      go_cut [80] from 80 to 80 (fun t wc => t = .bool false ∧ Hid (TuS w0 wc H c1 c2 D1 K1 D2 K2 (2 * j + 1)))
      case first =>
        by_cases a1 : j < n1
        · have a1' : (j : Int) < (n1 : Int) := by omega
          obtain ⟨b, off, rfl, hbl, hops⟩ := (HOP1.out.below (HT.out.chg.mono hsw)) (by omega)
          obtain ⟨kd, q, inc, tick, Ac, nc, capc, hs, hop, hnc⟩ := hops j a1
          have o0 := hop.c0
          have o1 := hop.c1
          have o2 := hop.c2
          have o3 := hop.c3
          have o4 := hop.c4
          have HH := Lib.hid (HT.out.held1 HC1.out (by omega) Ac nc capc hs kd q inc tick hop.rd hsw hnc)
          clear hop hops
          go_wp2_with fail
          refine HH.out.mono ?_
          rintro _ w2 ⟨rfl, hT2⟩
          have HT2 := Lib.hid hT2
          clear hT2 p6 q6 o0 o1 o2 o3 o4
          go_wp2
          go_meet
          exact ⟨rfl, HT2⟩
        · go_wp2_with fail
          go_meet
          exact ⟨rfl, Lib.hid (HT.out.up (by omega))⟩
      obtain ⟨rfl, HT1⟩ := hcut
      clear HT p6 q6
      have q6 : wc.cell? ⟨w.heap.size + 1, 6, none⟩ = some (.slice A2 n2 k2) := (HX2.out wc HT1.out.chg).cell 6
      go_upto_region 11 with fail
      go_cut [97] from 97 to 97 (fun t wd => t = .bool false ∧ Hid (TuS w0 wd H c1 c2 D1 K1 D2 K2 (2 * (j + 1))))
      case first =>
        by_cases a1 : j < n2
        · have a1' : (j : Int) < (n2 : Int) := by omega
          obtain ⟨b, off, rfl, hbl, hops⟩ := (HOP2.out.below (HT1.out.chg.mono hsw)) (by omega)
          obtain ⟨kd, q, inc, tick, Ac, nc, capc, hs, hop, hnc⟩ := hops j a1
          have o0 := hop.c0
          have o1 := hop.c1
          have o2 := hop.c2
          have o3 := hop.c3
          have o4 := hop.c4
          have HH := Lib.hid (HT1.out.held2 HC2.out (by omega) Ac nc capc hs kd q inc tick hop.rd hsw hnc)
          clear hop hops
          go_wp2_with fail
          refine HH.out.mono ?_
          rintro _ w2 ⟨rfl, hT2⟩
          have HT2 := Lib.hid hT2
          clear hT2 q6 o0 o1 o2 o3 o4
          go_wp2
          go_meet
          exact ⟨rfl, HT2⟩
        · go_wp2_with fail
          go_meet
          exact ⟨rfl, Lib.hid (HT1.out.up (by omega))⟩
      obtain ⟨rfl, HT2⟩ := hcut
      clear HT1 q6
      go_wp2
      go_roundw
      case rel => exact ⟨j + 1, by omega, by go_num, HT2⟩
      case measure => simp [intOf] <;> omega
    | false =>
      clear HB p6 q6
      have HTE : Hid (TuS w0 wr H c1 c2 D1 K1 D2 K2 180) := Lib.hid (HT.out.up (by omega))
      clear HT
      go_upto_region 13 with fail
      go_wp2_with fail
      go_loopw [13] (fun i wq => ∃ q : Nat, 4 ≤ q ∧ q ≤ 8 ∧ i = .int .i64 (q : Int) ∧ Hid (TuS w0 wq H c1 c2 D1 K1 D2 K2 (180 + 2 * (q - 4)))) (fun i _ => 8 - (intOf i).toNat)
      case atStart => exact ⟨4, by omega, by omega, rfl, HTE⟩
      case round =>
        clear HTE
        rename_i wz
        obtain ⟨q, hq4, hq8, rfl, HT⟩ := hrel
        by_cases hlq : q < 8
        · have hlq' : (q : Int) ≤ 7 := by omega
          go_upto_region 16 with fail
          have HH := Lib.hid (HT.out.held1 HC1.out (by omega) none 0 0 [] (q : Int) 0 0 0 (Bi := 0) (Rd.nil_ _) (by omega) (by omega))
          go_wp2_with fail
          refine HH.out.mono ?_
          rintro _ w2 ⟨rfl, hT2⟩
          have HH2 := Lib.hid (hT2.held2 HC2.out (by omega) none 0 0 [] (q : Int) 0 0 0 (Bi := 0) (Rd.nil_ _) (by omega) (by omega))
          clear hT2
          go_wp2_with fail
          refine HH2.out.mono ?_
          rintro _ w3 ⟨rfl, hT3⟩
          have HT3 := Lib.hid hT3
          clear hT3
          go_wp2
          go_roundw
          case rel => exact ⟨q + 1, by omega, by omega, by go_num, Lib.hid (HT3.out.up (by omega))⟩
          case measure => simp [intOf] <;> omega
        · have hlq' : ¬ (q : Int) ≤ 7 := by omega
          have HA := Lib.hid (HT.out.alone (by omega))
          go_upto_region 18 with fail
          go_wp2_with fail
          refine HA.out.mono ?_
          rintro _ w2 ⟨rfl, ⟨F1', l1, hP1, hl1⟩, ⟨F2', l2, hP2, hl2⟩, hb2⟩
          have p0 : w2.cell? ⟨w.heap.size, 0, none⟩ = some (.int .i64 (c1.n : Int)) := (HX1.out w2 hb2).cell 0
          have HL1 := Lib.hid (all_any HC1.out hP1 (by omega))
          have HB2 := Lib.hid hb2
          have HP2 := Lib.hid (And.intro hP2 hl2)
          clear hP1 hl1 hP2 hl2 hb2
          go_wp2_with fail
          refine HL1.out.mono ?_
          rintro _ w3 ⟨rfl, hb3⟩
          have HB3 := Lib.hid (HB2.out.trans (hb3.mono HB2.out.size))
          have q0 : w3.cell? ⟨w.heap.size + 1, 0, none⟩ = some (.int .i64 (c2.n : Int)) := (HX2.out w3 HB3.out).cell 0
          have HL2 := Lib.hid (all_any HC2.out (HP2.out.1.below hb3) (by have := HP2.out.2; omega))
          clear hb3 p0
          go_wp2_with fail
          refine HL2.out.mono ?_
          rintro _ w4 ⟨rfl, hb4⟩
          have HB4 : Hid (Below w.heap.size w w4) := Lib.hid (HBW.out.trans ((HB3.out.trans (hb4.mono HB3.out.size)).mono hsw))
          clear hb4 q0
          go_wp2
          go_ret
          exact ⟨rfl, HB4.out⟩
theorem made_some (x0 x1 x2 x3 x4 x5 : Int) (hn0 : -9223372036854775808 ≤ x0) (hn1 : x0 ≤ 9223372036854775807) (A : Option Addr) (m cap : Nat) (w : World) :
    Calls Try.prog 32 #[.agg #[.int .i64 x0, .int .i64 x1, .int .i64 x2, .int .i64 x3, .int .i64 x4, .int .i64 x5, .slice A m cap]] w fun e w' => (∃ p q : Option Addr, e = .returned (.tuple #[.pointer p, .pointer q, .bool true]) ∧ (¬ NewOk x0 x1 x2 x3 x4 x5 → p = none)) ∧ Below w.heap.size w w' := by
  by_cases hok : NewOk x0 x1 x2 x3 x4 x5
  · obtain ⟨c, hc, rfl, rfl, rfl, rfl, rfl, rfl⟩ := hok.cfg
    refine (made_yes hc A m cap).mono ?_
    rintro _ w' ⟨D, K, F, rfl, _, _, hb⟩
    exact ⟨⟨_, _, rfl, fun h => absurd hok h⟩, hb⟩
  · refine (made_no x0 x1 x2 x3 x4 x5 hok hn0 hn1 A m cap).mono ?_
    rintro _ w' ⟨rfl, hb⟩
    exact ⟨⟨_, _, rfl, fun _ => rfl⟩, hb⟩
set_option maxRecDepth 100000 in
set_option maxHeartbeats 3200000 in
theorem Turns_no (x0 x1 x2 x3 x4 x5 : Int) (A1 : Option Addr) (n1 k1 : Nat) (y0 y1 y2 y3 y4 y5 : Int) (A2 : Option Addr) (n2 k2 : Nat) (w : World) (hx0 : -9223372036854775808 ≤ x0) (hx1 : x0 ≤ 9223372036854775807) (hy0 : -9223372036854775808 ≤ y0) (hy1 : y0 ≤ 9223372036854775807) (hno : ¬ (NewOk x0 x1 x2 x3 x4 x5 ∧ NewOk y0 y1 y2 y3 y4 y5)) :
    Calls Try.prog 9 #[.agg #[.int .i64 x0, .int .i64 x1, .int .i64 x2, .int .i64 x3, .int .i64 x4, .int .i64 x5, .slice A1 n1 k1], .agg #[.int .i64 y0, .int .i64 y1, .int .i64 y2, .int .i64 y3, .int .i64 y4, .int .i64 y5, .slice A2 n2 k2]] w (AsksOk w) := by
  obtain ⟨wA, hwA⟩ : ∃ wA, wA = w.alloc (.cells #[.int .i64 x0, .int .i64 x1, .int .i64 x2, .int .i64 x3, .int .i64 x4, .int .i64 x5, .slice A1 n1 k1] 27) := ⟨_, rfl⟩
  obtain ⟨w0, hw0⟩ : ∃ w0, w0 = wA.alloc (.cells #[.int .i64 y0, .int .i64 y1, .int .i64 y2, .int .i64 y3, .int .i64 y4, .int .i64 y5, .slice A2 n2 k2] 27) := ⟨_, rfl⟩
  have hbA : Below w.heap.size w wA := by rw [hwA]; exact one_box' w _
  have hb0 : Below wA.heap.size wA w0 := by rw [hw0]; exact one_box' wA _
  have hsA : wA.heap.size = w.heap.size + 1 := by rw [hwA]; simp
  have hX1 : Blk w0 w.heap.size 27 #[.int .i64 x0, .int .i64 x1, .int .i64 x2, .int .i64 x3, .int .i64 x4, .int .i64 x5, .slice A1 n1 k1] := by
    have := Blk.new w 27 #[.int .i64 x0, .int .i64 x1, .int .i64 x2, .int .i64 x3, .int .i64 x4, .int .i64 x5, .slice A1 n1 k1]
    rw [← hwA] at this
    exact this.over hb0
  have hX2 : Blk w0 (w.heap.size + 1) 27 #[.int .i64 y0, .int .i64 y1, .int .i64 y2, .int .i64 y3, .int .i64 y4, .int .i64 y5, .slice A2 n2 k2] := by
    have := Blk.new wA 27 #[.int .i64 y0, .int .i64 y1, .int .i64 y2, .int .i64 y3, .int .i64 y4, .int .i64 y5, .slice A2 n2 k2]
    rw [← hw0, hsA] at this
    exact this
  have hbw : Below w.heap.size w w0 := hbA.trans (hb0.mono hbA.size)
  have HX2 := Lib.hid hX2
  have HBW := Lib.hid hbw
  have HWA := Lib.hid hwA
  have HW0 := Lib.hid hw0
  have p0 : w0.cell? ⟨w.heap.size, 0, none⟩ = some (.int .i64 x0) := hX1.cell 0
  have p1 : w0.cell? ⟨w.heap.size, 1, none⟩ = some (.int .i64 x1) := hX1.cell 1
  have p2 : w0.cell? ⟨w.heap.size, 2, none⟩ = some (.int .i64 x2) := hX1.cell 2
  have p3 : w0.cell? ⟨w.heap.size, 3, none⟩ = some (.int .i64 x3) := hX1.cell 3
  have p4 : w0.cell? ⟨w.heap.size, 4, none⟩ = some (.int .i64 x4) := hX1.cell 4
  have p5 : w0.cell? ⟨w.heap.size, 5, none⟩ = some (.int .i64 x5) := hX1.cell 5
  have p6 : w0.cell? ⟨w.heap.size, 6, none⟩ = some (.slice A1 n1 k1) := hX1.cell 6
  have HNO := Lib.hid hno
  clear hwA hw0 hbA hb0 hsA hX1 hX2 hbw hno
  go_enter Try.func9, Try.ntmps9
  go_upto_region 1 with fail
  rw [← HWA.out]
  rw [← HW0.out]
  go_wp2_with fail
  refine (made_some x0 x1 x2 x3 x4 x5 hx0 hx1 A1 n1 k1 w0).mono ?_
  rintro _ wB ⟨⟨P1, Q1, rfl, hP1⟩, hbB⟩
  have hY := HX2.out.over hbB
  have q0 : wB.cell? ⟨w.heap.size + 1, 0, none⟩ = some (.int .i64 y0) := hY.cell 0
  have q1 : wB.cell? ⟨w.heap.size + 1, 1, none⟩ = some (.int .i64 y1) := hY.cell 1
  have q2 : wB.cell? ⟨w.heap.size + 1, 2, none⟩ = some (.int .i64 y2) := hY.cell 2
  have q3 : wB.cell? ⟨w.heap.size + 1, 3, none⟩ = some (.int .i64 y3) := hY.cell 3
  have q4 : wB.cell? ⟨w.heap.size + 1, 4, none⟩ = some (.int .i64 y4) := hY.cell 4
  have q5 : wB.cell? ⟨w.heap.size + 1, 5, none⟩ = some (.int .i64 y5) := hY.cell 5
  have q6 : wB.cell? ⟨w.heap.size + 1, 6, none⟩ = some (.slice A2 n2 k2) := hY.cell 6
  have HBB := Lib.hid (HBW.out.trans (hbB.mono HBW.out.size))
  clear hY hbB p0 p1 p2 p3 p4 p5 p6
  have HP1 := Lib.hid hP1
  clear hP1
  go_wp2_with fail
  refine (made_some y0 y1 y2 y3 y4 y5 hy0 hy1 A2 n2 k2 wB).mono ?_
  rintro _ wC ⟨⟨P2, Q2, rfl, hP2⟩, hbC⟩
  have HBC := Lib.hid (HBB.out.trans (hbC.mono HBB.out.size))
  have HPQ : Hid (P1 = none ∨ P2 = none) := Lib.hid (by
    by_cases h : NewOk x0 x1 x2 x3 x4 x5
    · exact .inr (hP2 fun h' => HNO.out ⟨h, h'⟩)
    · exact .inl (HP1.out h))
  clear hbC hP2 q0 q1 q2 q3 q4 q5 q6
  cases P1 with
  | none =>
    go_wp2
    go_ret
    exact ⟨rfl, HBC.out⟩
  | some a1 =>
    cases P2 with
    | none =>
      go_wp2
      go_ret
      exact ⟨rfl, HBC.out⟩
    | some a2 => exact absurd HPQ.out (by simp)
theorem DetectTurns_walk {H : Type} {enc : TypeId × Value → H} (x0 x1 x2 x3 x4 x5 : Int) (A : Option Addr) (nx kx : Nat) (L : List (List Value)) (z0 z1 z2 z3 z4 z5 : Int) (C : Option Addr) (nz kz : Nat) (M : List (List Value)) (w : World) (bx0 : -9223372036854775808 ≤ x0) (tx0 : x0 ≤ 9223372036854775807) (_bx1 : -9223372036854775808 ≤ x1) (_tx1 : x1 ≤ 9223372036854775807) (_bx2 : -9223372036854775808 ≤ x2) (_tx2 : x2 ≤ 9223372036854775807) (_bx3 : -9223372036854775808 ≤ x3) (_tx3 : x3 ≤ 9223372036854775807) (_bx4 : -9223372036854775808 ≤ x4) (_tx4 : x4 ≤ 9223372036854775807) (_bx5 : -9223372036854775808 ≤ x5) (_tx5 : x5 ≤ 9223372036854775807) (ux : nx ≤ 1048576) (_px : nx ≤ kx) (_qx : kx * 56 ≤ 140737488351232) (lx : L.length = nx) (rx : Rd w w.heap.size 5 A nx L.flatten) (sx : ∀ y ∈ L, y.length = 5 ∧ ∃ d, FitU enc Try.prog w 61 y d) (bz0 : -9223372036854775808 ≤ z0) (tz0 : z0 ≤ 9223372036854775807) (_bz1 : -9223372036854775808 ≤ z1) (_tz1 : z1 ≤ 9223372036854775807) (_bz2 : -9223372036854775808 ≤ z2) (_tz2 : z2 ≤ 9223372036854775807) (_bz3 : -9223372036854775808 ≤ z3) (_tz3 : z3 ≤ 9223372036854775807) (_bz4 : -9223372036854775808 ≤ z4) (_tz4 : z4 ≤ 9223372036854775807) (_bz5 : -9223372036854775808 ≤ z5) (_tz5 : z5 ≤ 9223372036854775807) (uz : nz ≤ 1048576) (_pz : nz ≤ kz) (_qz : kz * 56 ≤ 140737488351232) (lz : M.length = nz) (rz : Rd w w.heap.size 5 C nz M.flatten) (sz : ∀ y ∈ M, y.length = 5 ∧ ∃ d, FitU enc Try.prog w 61 y d) :
    Calls Try.prog 9 #[.agg #[.int .i64 x0, .int .i64 x1, .int .i64 x2, .int .i64 x3, .int .i64 x4, .int .i64 x5, .slice A nx kx], .agg #[.int .i64 z0, .int .i64 z1, .int .i64 z2, .int .i64 z3, .int .i64 z4, .int .i64 z5, .slice C nz kz]] w (AsksOk w) := by
  by_cases h1 : NewOk x0 x1 x2 x3 x4 x5
  · by_cases h2 : NewOk z0 z1 z2 z3 z4 z5
    · obtain ⟨c1, hc1, rfl, rfl, rfl, rfl, rfl, rfl⟩ := h1.cfg
      obtain ⟨c2, hc2, rfl, rfl, rfl, rfl, rfl, rfl⟩ := h2.cfg
      exact Turns_go hc1 hc2 A nx kx C nz kz w ux uz (Lib.hid (ops_openU lx rx sx)) (Lib.hid (ops_openU lz rz sz))
    · exact Turns_no x0 x1 x2 x3 x4 x5 A nx kx z0 z1 z2 z3 z4 z5 C nz kz w bx0 tx0 bz0 tz0 fun h => h2 h.2
  · exact Turns_no x0 x1 x2 x3 x4 x5 A nx kx z0 z1 z2 z3 z4 z5 C nz kz w bx0 tx0 bz0 tz0 fun h => h1 h.1
end Go.Proofs.Ytfjpmoigpnmeoaa
