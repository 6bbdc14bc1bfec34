/-
  DetectOwn, walked.
-/
import Derived.Test.YtfjpmoigpnmeoaaDOwnD
import Derived.IntWalk
namespace Go.Proofs.Ytfjpmoigpnmeoaa
open Go.RowKit
set_option maxRecDepth 100000 in
set_option maxHeartbeats 25600000 in
theorem DetectOwn_core (x0 x1 x2 x3 x4 x5 : Int) (A1 : Option Addr) (n1 k1 : Nat) (w : World) (hn0 : -9223372036854775808 ≤ x0) (hn1 : x0 ≤ 9223372036854775807) (hle : n1 ≤ k1) (hcap : k1 * 56 ≤ 140737488351232) (HO : Hid (Ops w w.heap.size A1 n1)) :
    Calls Try.prog 8 #[.agg #[.int .i64 x0, .int .i64 x1, .int .i64 x2, .int .i64 x3, .int .i64 x4, .int .i64 x5, .slice A1 n1 k1]] w (AsksOk w) := by
  obtain ⟨i0, hi0, hz0, hz1, hz2⟩ := info_parts info_handed
  by_cases hok : NewOk x0 x1 x2 x3 x4 x5
  · obtain ⟨c, hc, rfl, rfl, rfl, rfl, rfl, rfl⟩ := hok.cfg
    have hb0 := one_box' w (.cells #[.int .i64 (c.n : Int), .int .i64 (c.self : Int), .int .i64 c.inc, .int .i64 c.base, .int .i64 c.step, .int .i64 c.lim, .slice A1 n1 k1] 27)
    have hR := Blk.new w 27 #[.int .i64 (c.n : Int), .int .i64 (c.self : Int), .int .i64 c.inc, .int .i64 c.base, .int .i64 c.step, .int .i64 c.lim, .slice A1 n1 k1]
    obtain ⟨w0, hw0⟩ : ∃ w0, w0 = w.alloc (.cells #[.int .i64 (c.n : Int), .int .i64 (c.self : Int), .int .i64 c.inc, .int .i64 c.base, .int .i64 c.step, .int .i64 c.lim, .slice A1 n1 k1] 27) := ⟨_, rfl⟩
    rw [← hw0] at hb0 hR
    have HW := Lib.hid hw0
    have hs0 := hb0.size
    have HOP : Hid (Ops w0 w.heap.size A1 n1) := HO.out.below hb0
    have HR := Lib.hid hR
    have HB0 := Lib.hid hb0
    have r0 : w0.cell? ⟨w.heap.size, 0, none⟩ = some (.int .i64 (c.n : Int)) := hR.cell 0
    have r1 : w0.cell? ⟨w.heap.size, 1, none⟩ = some (.int .i64 (c.self : Int)) := hR.cell 1
    have r2 : w0.cell? ⟨w.heap.size, 2, none⟩ = some (.int .i64 c.inc) := hR.cell 2
    have r3 : w0.cell? ⟨w.heap.size, 3, none⟩ = some (.int .i64 c.base) := hR.cell 3
    have r4 : w0.cell? ⟨w.heap.size, 4, none⟩ = some (.int .i64 c.step) := hR.cell 4
    have r5 : w0.cell? ⟨w.heap.size, 5, none⟩ = some (.int .i64 c.lim) := hR.cell 5
    have r6 : w0.cell? ⟨w.heap.size, 6, none⟩ = some (.slice A1 n1 k1) := hR.cell 6
    have HC := Lib.hid hc
    clear hw0 hR hok hc hb0
    go_enter Try.func8, Try.ntmps8
    go_upto_region 1 with fail
    rw [← HW.out]
    go_wp2_with fail
    refine (made_yes HC.out A1 n1 k1).mono ?_
    rintro _ w1 ⟨D, Kk, F, rfl, hp, hF, hb1⟩
    obtain ⟨B, hB⟩ : ∃ B, B = w1.heap.size := ⟨_, rfl⟩
    have HST : Hid (OwnSt w0 w1 B F c D Kk [] [] (.slice none 0 0) 0) := Lib.hid ⟨hp, hF, by simp, hb1, fun _ h => absurd h (by simp), ⟨by simp [rowsH], .inl ⟨rfl, rfl⟩⟩, fun g h => by simp [Value.ownBlock] at h, by rw [hB]; exact hb1.size, by omega⟩
    clear hp hF r0 r1 r2 r3 r4 r5 r6 hb1 hB
    go_wp2_with fail
    go_loopw [6, 7, 8, 9, 10, 11, 12, 13] (fun a6 a7 _ _ _ _ _ _ wr => ∃ (k : Nat) (F : Nat → Prop) (l : List Ev) (L : List Hnd), k ≤ n1 ∧ a7 = .int .i64 (k : Int) ∧ L.length ≤ k ∧ Hid (OwnSt w0 wr B F c D Kk l L a6 k)) (fun _ a7 _ _ _ _ _ _ _ => n1 - (intOf a7).toNat)
    case atStart => exact ⟨0, F, [], [], by omega, rfl, by simp, HST⟩
    case round =>
      clear HST
      obtain ⟨k, F, l, L, hk, rfl, hLk, HS⟩ := hrel
      obtain ⟨A6, cap6, rfl, hcp6, hcm6⟩ := own_shape HS.out.out
      have hRr := HR.out.over HS.out.below
      have r0 : wr.cell? ⟨w.heap.size, 0, none⟩ = some (.int .i64 (c.n : Int)) := hRr.cell 0
      have r6 : wr.cell? ⟨w.heap.size, 6, none⟩ = some (.slice A1 n1 k1) := hRr.cell 6
      have hll : l.length < 3518437208883 := by have := HS.out.len; omega
      have hsr := HS.out.below.size
      clear hRr
      by_cases hlt : k < n1
      · have hI : (k : Int) < (n1 : Int) := by omega
        by_cases h120 : (k : Int) < 120
        · obtain ⟨b, off, rfl, hbl, hops⟩ := (HOP.out.below (HS.out.below.mono hs0)) (by omega)
          obtain ⟨kd, q, inc, tick, Ac, nc, capc, hs, hop⟩ := hops k hlt
          have o0 := hop.c0
          have o1 := hop.c1
          have o2 := hop.c2
          have o3 := hop.c3
          have o4 := hop.c4
          have hcp := hop.cap
          have hX := Blk.new wr 61 #[.int .i64 kd, .int .i64 q, .int .i64 inc, .int .i64 tick, .slice Ac nc capc]
          have hbx := one_box' wr (.cells #[.int .i64 kd, .int .i64 q, .int .i64 inc, .int .i64 tick, .slice Ac nc capc] 61)
          have hrx := (hop.rd.below (hbx.mono (show w.heap.size ≤ wr.heap.size by omega)))
          obtain ⟨wx, hwx⟩ : ∃ wx, wx = wr.alloc (.cells #[.int .i64 kd, .int .i64 q, .int .i64 inc, .int .i64 tick, .slice Ac nc capc] 61) := ⟨_, rfl⟩
          rw [← hwx] at hX hbx hrx
          have HWX := Lib.hid hwx
          have HSX := Lib.hid (HS.out.over hbx)
          have hsx := hbx.size
          have HD := Lib.hid (does_any Ac nc capc hs kd q inc tick HC.out HSX.out.pair hll (hrx.more (by omega)) hcp (fun hp b' o' s' e h => by
            obtain ⟨b2, o2, e', hlt', _⟩ := hrx.at_ hp
            rw [e] at e'; injection e' with e'; injection e' with e'
            have := HSX.out.fw b' h
            omega))
          have HX := Lib.hid hX
          have HFW : Hid (¬ F wr.heap.size) := Lib.hid fun h => by have := HS.out.pair.lt _ h; omega
          have x0 : wx.cell? ⟨wr.heap.size, 0, none⟩ = some (.int .i64 kd) := hX.cell 0
          have x1 : wx.cell? ⟨wr.heap.size, 1, none⟩ = some (.int .i64 q) := hX.cell 1
          have x2 : wx.cell? ⟨wr.heap.size, 2, none⟩ = some (.int .i64 inc) := hX.cell 2
          have x3 : wx.cell? ⟨wr.heap.size, 3, none⟩ = some (.int .i64 tick) := hX.cell 3
          have x4 : wx.cell? ⟨wr.heap.size, 4, none⟩ = some (.slice Ac nc capc) := hX.cell 4
          clear hwx hX hrx hop hops hbx
          go_upto_region 9 with fail
          rw [← HWX.out]
          clear o0 o1 o2 o3 o4
          go_wp2_with fail
          refine HD.out.mono ?_
          rintro _ w3 ⟨rfl, F', l', hp', hl', hm⟩
          have hX3 := HX.out.chg hm.2 HFW.out
          have HS3 : Hid (OwnSt w0 w3 B F' c D Kk l' L (.slice A6 L.length cap6) (k + 1)) := Lib.hid (HSX.out.moved hm hp' (by have := HSX.out.len; omega))
          have HXC : Hid (∀ W, Below w3.heap.size w3 W → W.cell? ⟨wr.heap.size, 0, none⟩ = some (.int .i64 kd)) := Lib.hid fun W hb => (hX3.over hb).cell 0
          have hll' : l'.length < 3518437208883 := by have := HS.out.len; omega
          clear x0 x1 x2 x3 x4 hX3 hp' hl' hm HX HD HFW HSX HS r0 r6 hll
          have x0 := HXC.out w3 (Below.refl _ _)
          clear hcp6 hcm6
          go_upto_region 12 with fail
          go_cut [56] from 49 to 56 (fun t56 wy => ∃ bb : Bool, bb = decide (4 ≤ kd ∧ kd ≤ 7) ∧ t56 = .bool bb ∧ Hid (wy = w3))
          case first =>
            by_cases h4 : kd ≥ 4
            · by_cases h7 : kd ≤ 7
              · go_wp2_with fail
                go_meet
                exact ⟨true, by simp; omega, rfl, Lib.hid rfl⟩
              · go_wp2_with fail
                go_meet
                exact ⟨false, by simp; omega, rfl, Lib.hid rfl⟩
            · go_wp2_with fail
              go_meet
              exact ⟨false, by simp; omega, rfl, Lib.hid rfl⟩
          obtain ⟨bb, hbb, rfl, hww⟩ := hcut
          obtain rfl : w3 = wc := hww.out.symm
          have HBB := Lib.hid hbb
          clear hbb hww
          go_upto_if 56 with fail
          go_cut [6, 10, 11, 12] from 27 to 97 (fun t6 _ _ _ wy => ∃ L2 : List Hnd, L2.length ≤ k + 1 ∧ Hid (OwnSt w0 wy B F' c D Kk l' L2 t6 (k + 1)))
          case first =>
            cases bb with
            | true =>
              have h47 : 4 ≤ kd ∧ kd ≤ 7 := of_decide_eq_true HBB.out.symm
              clear HBB
              have HLA : Hid (∀ W, Below w3.heap.size w3 W → Calls Try.prog 36 #[.pointer (some ⟨D, 0, none⟩), .pointer (some ⟨Kk, 0, none⟩), .int .i64 kd] W (ListsP W (lstOf kd c (dOf c l')))) := Lib.hid fun W hb => by
                obtain ⟨Fa, Fb, ha, hbb, _⟩ := HS3.out.pair.below hb
                exact lists_any HC.out ha hbb hll' kd
              have HLN := Lib.hid (lst_len (l := l') HC.out kd)
              by_cases hk4 : kd = 4
              · obtain rfl := hk4
                have HBT : Hid (∀ W, Below w3.heap.size w3 W → Calls Try.prog 23 #[.pointer (some ⟨D, 0, none⟩)] W (GivesB W (dOf c l').tick (hearsL c (dOf c l')))) := Lib.hid fun W hb => by
                  obtain ⟨Fa, Fb, ⟨hFa, O, Q, C, hP⟩, hbb, _⟩ := HS3.out.pair.below hb
                  exact PBeat_any hP hFa HC.out.2.1 HC.out.2.2.1
                have HHL : Hid ((hearsL c (dOf c l')).length ≤ 16) := Lib.hid (by have := HC.out.2.1; simpa [hearsL] using this)
                have HH1 : Hid (1 ≤ (hearsL c (dOf c l')).length) := Lib.hid (by have := HC.out.1; simpa [hearsL] using this)
                have hl4 : lstOf 4 c (dOf c l') = (dOf c l').tick :: hearsL c (dOf c l') := by simp [lstOf]
                rw [hl4] at HLA
                clear hl4 HLN
                generalize hearsL c (dOf c l') = HL at *
                generalize (dOf c l').tick = tk at *
                go_wp2_with fail
                refine (HLA.out w3 (Below.refl _ _)).mono ?_
                rintro _ w4 ⟨Aa, ca, Ab, cb, rfl, hoa, hob, hb4⟩
                obtain ⟨gb, cb', cub, hvb, hgb, hBb, hleb, hcmb, hszb, htkb⟩ := own_parts hob (by simp)
                simp only [Value.slice.injEq] at hvb
                obtain ⟨rfl, _, rfl⟩ := hvb
                have hcb : 2 ≤ cb := by have := HH1.out; simp at hleb; omega
                have HRB : Hid (RdI w4 w4.heap.size (some ⟨gb, 1, none⟩) HL.length HL) := Lib.hid (by
                  have h := Rd.tailI (t := tk) (Rd.of_own hob) (by simpa using hleb)
                  rw [if_neg (by omega)] at h
                  exact h)
                have e11 : HL.length + 1 - 1 = HL.length := by omega
                have HS4 := Lib.hid (HS3.out.over hb4)
                have HB4 := Lib.hid hb4
                have x0' := HXC.out w4 hb4
                clear hoa hob hBb hszb htkb hb4 hgb x0
                have HBT4 := Lib.hid (HBT.out w4 HB4.out)
                simp only [List.length_cons] at hleb
                have hs4 := HB4.out.size
                go_wp2_with fail
                refine HBT4.out.mono ?_
                rintro _ w5 ⟨Ad, cd, rfl, hod, hb5⟩
                have hX6 := Blk.new w5 37 #[.int .i64 tk, .slice Ad HL.length cd]
                have hb6 := one_box' w5 (.cells #[.int .i64 tk, .slice Ad HL.length cd] 37)
                have hs5 := hb5.size
                have hb56 := hb5.trans (hb6.mono hs5)
                obtain ⟨w6, hw6⟩ : ∃ w6, w6 = w5.alloc (.cells #[.int .i64 tk, .slice Ad HL.length cd] 37) := ⟨_, rfl⟩
                rw [← hw6] at hX6 hb6 hb56
                have HW6 := Lib.hid hw6
                have HOA := Lib.hid (own_over hod hb6)
                have hrb6 := HRB.out.over hb56
                have HBW : Hid (Below w3.heap.size w3 w6) := Lib.hid (HB4.out.trans (hb56.mono hs4))
                have hs6 := hb56.size
                have y1 : w6.cell? ⟨w5.heap.size, 1, none⟩ = some (.slice Ad HL.length cd) := hX6.cell 1
                obtain ⟨B1, hB1e⟩ : ∃ B1, B1 = w4.heap.size := ⟨_, rfl⟩
                have hB1 : w3.heap.size ≤ B1 := by omega
                have hB6 : B1 ≤ w6.heap.size := by omega
                rw [← hB1e] at HOA
                clear HRB
                have HRB := Lib.hid hrb6
                have HLL : Hid (HL.length ≤ 17) := Lib.hid (by have := HHL.out; omega)
                clear hw6 hX6 hb6 hb56 hod hb5 hrb6 x0' hB1e HBT4
                go_upto_region 16 with fail
                rw [← HW6.out]
                go_upto_region 18 with fail
                go_wp2_with fail
                refine (same_yes Ad (some ⟨gb, 1, none⟩) HL.length cd (cb - 1) HL w6 (Rd.of_own HOA.out) HRB.out (by have := HLL.out; omega)).mono ?_
                rintro _ w7 ⟨rfl, hb7⟩
                have HO7 := Lib.hid (own_over HOA.out hb7)
                have HB7 : Hid (Below w3.heap.size w3 w7) := Lib.hid (HBW.out.trans (hb7.mono HBW.out.size))
                have hs7 := hb7.size
                have hw1 : IntKind.i64.wrap (10 * (k : Int)) = 10 * (k : Int) := IntWalk.i64_in _ (by omega)
                have hw2 : IntKind.i64.wrap (10 * (k : Int) + 3) = 10 * (k : Int) + 3 := IntWalk.i64_in _ (by omega)
                have HMK := Lib.hid (marked_any Ad cd HL B1 (10 * (k : Int) + 3) w7 HO7.out (by omega) (by have := HLL.out; omega) (by omega))
                clear hb7
                go_wp2_with fail
                refine HMK.out.mono ?_
                rintro _ w8 ⟨g1, g2, c1, c2, rfl, hh, hb8⟩
                have HB8 : Hid (Below w3.heap.size w3 w8) := Lib.hid (HB7.out.trans (hb8.mono hB1))
                have HHO : Hid (HndOk w8 B F' ⟨Ad, HL.length, cd, g1, g2, c1, c2, 10 * (k : Int) + 3⟩) := Lib.hid (HS3.out.given hB1 HB8.out hh (by have := HLL.out; omega) (by omega))
                have HS8 := Lib.hid (HS3.out.over HB8.out)
                have hs8 := hb8.size
                have hbB := HS8.out.base.2
                have HO8 := Lib.hid HS8.out.out
                clear hh hb8 hw1 hw2
                go_wp2_with (at_builtin; refine appN2 w8 (by rfl) _ _ 70 (by rfl) B 74 i0 _ 4 80 u_handed hi0 hz0 hz1 hz2 rfl (by decide) _ L.length _ (by rfl) HO8.out #[.slice Ad HL.length cd, .slice (some ⟨g1, 0, none⟩) (HL.length + 1) c1, .slice (some ⟨g2, 0, none⟩) (HL.length + 1) c2, .int .i64 (10 * (k : Int) + 3)] rfl (by rfl) (rowH_one ⟨Ad, HL.length, cd, g1, g2, c1, c2, 10 * (k : Int) + 3⟩) (by simp only [maxLen]; omega) (by omega) hbB ?_; intro v9 w9 own9 _ hg9 hat9)
                go_meet
                exact ⟨L ++ [⟨Ad, HL.length, cd, g1, g2, c1, c2, 10 * (k : Int) + 3⟩], by simp; omega, Lib.hid (HS8.out.push (x := ⟨Ad, HL.length, cd, g1, g2, c1, c2, 10 * (k : Int) + 3⟩) HHO.out hg9 own9 hat9)⟩
              · have hl5 : lstOf kd c (dOf c l') = lstOf kd c (dOf c l') := rfl
                have e4 : (kd == 4) = false := by simpa using hk4
                clear hl5 hk4
                generalize lstOf kd c (dOf c l') = LL at *
                go_wp2_with fail
                refine (HLA.out w3 (Below.refl _ _)).mono ?_
                rintro _ w4 ⟨Aa, ca, Ab, cb, rfl, hoa, hob, hb4⟩
                have HOA := Lib.hid hoa
                have HRB : Hid (RdI w4 w4.heap.size Ab LL.length LL) := Lib.hid (Rd.of_own hob)
                have HBW := Lib.hid hb4
                have HLL := HLN
                have x0' := HXC.out w4 hb4
                have hs4 := hb4.size
                obtain ⟨B1, hB1e⟩ : ∃ B1, B1 = w3.heap.size := ⟨_, rfl⟩
                have hB1 : w3.heap.size ≤ B1 := by omega
                have hB6 : B1 ≤ w4.heap.size := by omega
                rw [← hB1e] at HOA
                clear hoa hob hb4 hB1e x0 HLA HLN
                go_wp2_with fail
                refine (same_yes Aa Ab LL.length ca cb LL w4 (Rd.of_own HOA.out) HRB.out (by have := HLL.out; omega)).mono ?_
                rintro _ w7 ⟨rfl, hb7⟩
                have HO7 := Lib.hid (own_over HOA.out hb7)
                have HB7 : Hid (Below w3.heap.size w3 w7) := Lib.hid (HBW.out.trans (hb7.mono HBW.out.size))
                have hs7 := hb7.size
                have hw1 : IntKind.i64.wrap (10 * (k : Int)) = 10 * (k : Int) := IntWalk.i64_in _ (by omega)
                have hw2 : IntKind.i64.wrap (10 * (k : Int) + 3) = 10 * (k : Int) + 3 := IntWalk.i64_in _ (by omega)
                have HMK := Lib.hid (marked_any Aa ca LL B1 (10 * (k : Int) + 3) w7 HO7.out (by omega) (by have := HLL.out; omega) (by omega))
                clear hb7
                go_wp2_with fail
                refine HMK.out.mono ?_
                rintro _ w8 ⟨g1, g2, c1, c2, rfl, hh, hb8⟩
                have HB8 : Hid (Below w3.heap.size w3 w8) := Lib.hid (HB7.out.trans (hb8.mono hB1))
                have HHO : Hid (HndOk w8 B F' ⟨Aa, LL.length, ca, g1, g2, c1, c2, 10 * (k : Int) + 3⟩) := Lib.hid (HS3.out.given hB1 HB8.out hh (by have := HLL.out; omega) (by omega))
                have HS8 := Lib.hid (HS3.out.over HB8.out)
                have hs8 := hb8.size
                have hbB := HS8.out.base.2
                have HO8 := Lib.hid HS8.out.out
                clear hh hb8 hw1 hw2
                go_wp2_with (at_builtin; refine appN2 w8 (by rfl) _ _ 70 (by rfl) B 74 i0 _ 4 80 u_handed hi0 hz0 hz1 hz2 rfl (by decide) _ L.length _ (by rfl) HO8.out #[.slice Aa LL.length ca, .slice (some ⟨g1, 0, none⟩) (LL.length + 1) c1, .slice (some ⟨g2, 0, none⟩) (LL.length + 1) c2, .int .i64 (10 * (k : Int) + 3)] rfl (by rfl) (rowH_one ⟨Aa, LL.length, ca, g1, g2, c1, c2, 10 * (k : Int) + 3⟩) (by simp only [maxLen]; omega) (by omega) hbB ?_; intro v9 w9 own9 _ hg9 hat9)
                go_meet
                exact ⟨L ++ [⟨Aa, LL.length, ca, g1, g2, c1, c2, 10 * (k : Int) + 3⟩], by simp; omega, Lib.hid (HS8.out.push (x := ⟨Aa, LL.length, ca, g1, g2, c1, c2, 10 * (k : Int) + 3⟩) HHO.out hg9 own9 hat9)⟩
            | false =>
              go_wp2_with fail
              go_meet
              exact ⟨L, by omega, HS3⟩
          case rest =>
            clear HS3 x0
            obtain ⟨L2, hL2, HS2⟩ := hcut
            obtain ⟨A7, cap7, rfl, hcp7, hcm7⟩ := own_shape HS2.out.out
            go_wp2_with fail
            go_loopw [13] (fun a13 wr => ∃ j' : Nat, j' ≤ L2.length ∧ a13 = .int .i64 (j' : Int) ∧ Hid (OwnSt w0 wr B F' c D Kk l' L2 (.slice A7 L2.length cap7) (k + 1))) (fun a13 _ => L2.length - (intOf a13).toNat)
            case atStart => exact ⟨0, by omega, rfl, HS2⟩
            case round =>
              clear HS2
              obtain ⟨j', hj', rfl, HJ⟩ := hrel
              by_cases hjl : j' < L2.length
              · have hjI : (j' : Int) < (L2.length : Int) := by omega
                obtain ⟨g, capg, x, hv, hxm, m0, m1, m2, m3⟩ := handed_at HJ.out.out hjl
                have hxo := HJ.out.all x hxm
                obtain ⟨Ax, nx, capx, g1, g2, c1, c2, mk⟩ := x
                simp only [Value.slice.injEq] at hv
                obtain ⟨rfl, _, rfl⟩ := hv
                simp only at m0 m1 m2 m3 hxo
                have HST := Lib.hid (still_yes Ax nx capx g1 g2 c1 c2 mk wr (Rd.of_own hxo.at_.got) hxo.at_.c1 hxo.at_.c2 hxo.at_.b1.2 hxo.at_.b2.2 hxo.n hxo.mrk)
                clear hxo
                go_wp2_with fail
                refine HST.out.mono ?_
                rintro _ w7 ⟨rfl, hb7⟩
                have HJ7 := Lib.hid (HJ.out.over hb7)
                clear hb7 m0 m1 m2 m3
                go_wp2
                go_roundw
                case rel => exact ⟨j' + 1, by omega, by go_num, HJ7⟩
                case measure => simp [intOf] <;> omega
              · have hjI : ¬ (j' : Int) < (L2.length : Int) := by omega
                go_wp2
                go_roundw
                case rel => first | exact ⟨k + 1, F', l', L2, by omega, by go_num, hL2, HJ⟩ | ((repeat apply Exists.intro); refine And.symm ⟨rfl, ?_⟩; exact ⟨k + 1, F', l', L2, by omega, by go_num, hL2, HJ⟩)
                case measure => simp [intOf] <;> omega
        · have HAL := Lib.hid (all_any HC.out HS.out.pair hll)
          go_wp2_with fail
          refine HAL.out.mono ?_
          rintro _ w4 ⟨rfl, hb4⟩
          have HE : Hid (Below w.heap.size w w4) := Lib.hid (HB0.out.trans ((HS.out.below.trans (hb4.mono hsr)).mono hs0))
          clear hb4
          go_wp2
          go_ret
          exact ⟨rfl, HE.out⟩
      · have HAL := Lib.hid (all_any HC.out HS.out.pair hll)
        go_wp2_with fail
        refine HAL.out.mono ?_
        rintro _ w4 ⟨rfl, hb4⟩
        have HE : Hid (Below w.heap.size w w4) := Lib.hid (HB0.out.trans ((HS.out.below.trans (hb4.mono hsr)).mono hs0))
        clear hb4
        go_wp2
        go_ret
        exact ⟨rfl, HE.out⟩
  · have hb0 := one_box' w (.cells #[.int .i64 x0, .int .i64 x1, .int .i64 x2, .int .i64 x3, .int .i64 x4, .int .i64 x5, .slice A1 n1 k1] 27)
    have HK := Lib.hid hok
    have hs0 := hb0.size
    clear hok
    go_enter Try.func8, Try.ntmps8
    go_wp2_with fail
    refine (made_no x0 x1 x2 x3 x4 x5 HK.out hn0 hn1 A1 n1 k1).mono ?_
    rintro _ w1 ⟨rfl, hb1⟩
    go_wp2
    go_ret
    exact ⟨rfl, hb0.trans (hb1.mono hs0)⟩
theorem DetectOwn_walk {H : Type} {enc : TypeId × Value → H} (x0 x1 x2 x3 x4 x5 : Int) (A6 : Option Addr) (n6 k6 : Nat) (x6 : List (List Value)) (w : World) (b0 : -9223372036854775808 ≤ x0) (t0 : x0 ≤ 9223372036854775807) (_b1 : -9223372036854775808 ≤ x1) (_t1 : x1 ≤ 9223372036854775807) (_b2 : -9223372036854775808 ≤ x2) (_t2 : x2 ≤ 9223372036854775807) (_b3 : -9223372036854775808 ≤ x3) (_t3 : x3 ≤ 9223372036854775807) (_b4 : -9223372036854775808 ≤ x4) (_t4 : x4 ≤ 9223372036854775807) (_b5 : -9223372036854775808 ≤ x5) (_t5 : x5 ≤ 9223372036854775807) (p6 : n6 ≤ k6) (q6 : k6 * 56 ≤ 140737488351232) (l6 : x6.length = n6) (r6 : Rd w w.heap.size 5 A6 n6 x6.flatten) (s6 : ∀ y ∈ x6, y.length = 5 ∧ ∃ d, Fit enc Try.prog w 61 y d) :
    Calls Try.prog 8 #[.agg #[.int .i64 x0, .int .i64 x1, .int .i64 x2, .int .i64 x3, .int .i64 x4, .int .i64 x5, .slice A6 n6 k6]] w (AsksOk w) :=
  DetectOwn_core x0 x1 x2 x3 x4 x5 A6 n6 k6 w b0 t0 p6 q6 (Lib.hid (ops_open l6 r6 s6))
end Go.Proofs.Ytfjpmoigpnmeoaa
