/-
  DetectSilent, walked.
-/
import Derived.Test.YtfjpmoigpnmeoaaDSilP
import Derived.IntWalk
namespace Go.Proofs.Ytfjpmoigpnmeoaa
open Go.RowKit
theorem pos_c (v n : Int) (w : World) (h0 : -9223372036854775808 ≤ v) (h1 : v ≤ 9223372036854775807) (hn : n ≤ 9223372036854775807) :
    Calls Try.prog 12 #[.int .i64 v, .int .i64 n] w fun e w' => e = .returned (.int .i64 (posZ v n)) ∧ w' = w := (pos_any v n w h0 h1 hn).mono fun _ _ ⟨h, h2⟩ => ⟨h, h2.symm⟩
theorem stale_call {w w0 : World} {c : Cfg} {D : Nat} {F : Nat → Prop} {d : DSt} {m j i : Nat} {inc t wg : Int} (hc : c.Ok) (hj : j < c.n) (hs : j ≠ c.self) (h : Live w0 w F c D d m) (hS : Sil d j inc t wg i) (hi : 1 ≤ inc) (hi2 : inc ≤ 4611686018427387904) (hm : m < 4611686018427387904) (tk : Int) (h0 : 0 ≤ tk) (h5 : tk ≤ 5) (w1 : World) (hb : Below w.heap.size w w1) (g : Nat) (hg : w.heap.size ≤ g) (hB : Blk w1 g 3 (rg (hearsZ c.n c.self c.inc).length fun k => .int .i64 ((hearsZ c.n c.self c.inc).getD k 0))) :
    Calls Try.prog 13 #[.pointer (some ⟨D, 0, none⟩), .int .i64 (j : Int), .int .i64 inc, .agg #[.int .i64 tk, .slice (some ⟨g, 0, none⟩) (hearsZ c.n c.self c.inc).length (hearsZ c.n c.self c.inc).length]] w1 fun e w' => e = .returned (.int .i64 51) ∧ Live w0 w' F c D d m := by
  obtain ⟨e1, e2⟩ := sil_stale hc hj hs hS hi hi2 tk h0 h5
  have hn := hc.2.1
  refine (PHeard_f hc h hm g _ _ (j : Int) inc tk (by rw [hearsZ_len]; omega) w1 hb hg hB).mono fun e w' hh => ?_
  obtain ⟨h1, h2, _⟩ := hh
  rw [e1] at h1
  rw [e2] at h2
  exact ⟨h1, h2.p, h.ok, h2.fw, h2.below⟩
set_option maxRecDepth 100000 in
set_option maxHeartbeats 12800000 in
theorem DetectSilent_core (x0 x1 x2 x3 x4 x5 : Int) (A1 : Option Addr) (n1 k1 : Nat) (qq more : Int) (A2 : Option Addr) (n2 k2 : Nat) (tks : List Int) (w : World) (hn0 : -9223372036854775808 ≤ x0) (hn1 : x0 ≤ 9223372036854775807) (hle : n1 ≤ k1) (hcap : k1 * 56 ≤ 140737488351232) (HO : Hid (Ops w w.heap.size A1 n1))
    (hq0 : -9223372036854775808 ≤ qq) (hq1 : qq ≤ 9223372036854775807) (hm0 : -9223372036854775808 ≤ more) (hm1 : more ≤ 9223372036854775807) (hl2 : n2 ≤ k2) (hc2 : k2 * 8 ≤ 140737488351232) (hr2 : RdI w w.heap.size A2 n2 tks) (hb2 : ∀ x ∈ tks, -9223372036854775808 ≤ x ∧ x ≤ 9223372036854775807) :
    Calls Try.prog 5 #[.agg #[.int .i64 x0, .int .i64 x1, .int .i64 x2, .int .i64 x3, .int .i64 x4, .int .i64 x5, .slice A1 n1 k1, .int .i64 qq, .int .i64 more, .slice A2 n2 k2]] w (AsksOk w) := by
  have HB2 := Lib.hid hb2
  have HR2 := Lib.hid hr2
  have hb0 := one_box' w (.cells #[.int .i64 x0, .int .i64 x1, .int .i64 x2, .int .i64 x3, .int .i64 x4, .int .i64 x5, .slice A1 n1 k1, .int .i64 qq, .int .i64 more, .slice A2 n2 k2] 56)
  have hS := Blk.new w 56 #[.int .i64 x0, .int .i64 x1, .int .i64 x2, .int .i64 x3, .int .i64 x4, .int .i64 x5, .slice A1 n1 k1, .int .i64 qq, .int .i64 more, .slice A2 n2 k2]
  have hz0 : (w.alloc (.cells #[.int .i64 x0, .int .i64 x1, .int .i64 x2, .int .i64 x3, .int .i64 x4, .int .i64 x5, .slice A1 n1 k1, .int .i64 qq, .int .i64 more, .slice A2 n2 k2] 56)).heap.size = w.heap.size + 1 := by simp
  obtain ⟨w0, hw0⟩ : ∃ w0, w0 = w.alloc (.cells #[.int .i64 x0, .int .i64 x1, .int .i64 x2, .int .i64 x3, .int .i64 x4, .int .i64 x5, .slice A1 n1 k1, .int .i64 qq, .int .i64 more, .slice A2 n2 k2] 56) := ⟨_, rfl⟩
  rw [← hw0] at hb0 hS hz0
  have HW0 := Lib.hid hw0
  have hb1 := one_box' w0 (.cells #[.int .i64 x0, .int .i64 x1, .int .i64 x2, .int .i64 x3, .int .i64 x4, .int .i64 x5, .slice A1 n1 k1] 27)
  have hR := Blk.new w0 27 #[.int .i64 x0, .int .i64 x1, .int .i64 x2, .int .i64 x3, .int .i64 x4, .int .i64 x5, .slice A1 n1 k1]
  have hS1 := hS.over hb1
  obtain ⟨w1, hw1⟩ : ∃ w1, w1 = w0.alloc (.cells #[.int .i64 x0, .int .i64 x1, .int .i64 x2, .int .i64 x3, .int .i64 x4, .int .i64 x5, .slice A1 n1 k1] 27) := ⟨_, rfl⟩
  rw [← hw1] at hb1 hR hS1
  have HW1 := Lib.hid hw1
  rw [hz0] at hR
  have hs0 := hb0.size
  have hs1 := hb1.size
  have hbw : Below w.heap.size w w1 := hb0.trans (hb1.mono hs0)
  have HOP : Hid (Ops w1 w.heap.size A1 n1) := HO.out.below hbw
  have HBX : Hid (∀ W, Below w1.heap.size w1 W → W.cell? ⟨w.heap.size, 7, none⟩ = some (.int .i64 qq) ∧ W.cell? ⟨w.heap.size, 8, none⟩ = some (.int .i64 more) ∧ W.cell? ⟨w.heap.size, 9, none⟩ = some (.slice A2 n2 k2) ∧
      W.cell? ⟨w.heap.size + 1, 0, none⟩ = some (.int .i64 x0) ∧ W.cell? ⟨w.heap.size + 1, 1, none⟩ = some (.int .i64 x1) ∧ W.cell? ⟨w.heap.size + 1, 2, none⟩ = some (.int .i64 x2) ∧ W.cell? ⟨w.heap.size + 1, 5, none⟩ = some (.int .i64 x5)) := Lib.hid fun W hb =>
    ⟨(hS1.over hb).cell 7, (hS1.over hb).cell 8, (hS1.over hb).cell 9, (hR.over hb).cell 0, (hR.over hb).cell 1, (hR.over hb).cell 2, (hR.over hb).cell 5⟩
  have s0 : w0.cell? ⟨w.heap.size, 0, none⟩ = some (.int .i64 x0) := hS.cell 0
  have s1 : w0.cell? ⟨w.heap.size, 1, none⟩ = some (.int .i64 x1) := hS.cell 1
  have s2 : w0.cell? ⟨w.heap.size, 2, none⟩ = some (.int .i64 x2) := hS.cell 2
  have s3 : w0.cell? ⟨w.heap.size, 3, none⟩ = some (.int .i64 x3) := hS.cell 3
  have s4 : w0.cell? ⟨w.heap.size, 4, none⟩ = some (.int .i64 x4) := hS.cell 4
  have s5 : w0.cell? ⟨w.heap.size, 5, none⟩ = some (.int .i64 x5) := hS.cell 5
  have s6 : w0.cell? ⟨w.heap.size, 6, none⟩ = some (.slice A1 n1 k1) := hS.cell 6
  have r0 : w1.cell? ⟨w.heap.size + 1, 0, none⟩ = some (.int .i64 x0) := hR.cell 0
  have r1 : w1.cell? ⟨w.heap.size + 1, 1, none⟩ = some (.int .i64 x1) := hR.cell 1
  have r2 : w1.cell? ⟨w.heap.size + 1, 2, none⟩ = some (.int .i64 x2) := hR.cell 2
  have r3 : w1.cell? ⟨w.heap.size + 1, 3, none⟩ = some (.int .i64 x3) := hR.cell 3
  have r4 : w1.cell? ⟨w.heap.size + 1, 4, none⟩ = some (.int .i64 x4) := hR.cell 4
  have r5 : w1.cell? ⟨w.heap.size + 1, 5, none⟩ = some (.int .i64 x5) := hR.cell 5
  have r6 : w1.cell? ⟨w.heap.size + 1, 6, none⟩ = some (.slice A1 n1 k1) := hR.cell 6
  clear hw0 hw1 hS hR hS1 hb0 hb1 hr2 hb2
  go_enter Try.func5, Try.ntmps5
  go_upto_region 1 with fail
  rw [← HW0.out]
  go_upto_region 2 with fail
  rw [← HW1.out]
  clear s0 s1 s2 s3 s4 s5 s6
  go_wp2_with fail
  by_cases hok : NewOk x0 x1 x2 x3 x4 x5
  · obtain ⟨c, hc, rfl, rfl, rfl, rfl, rfl, rfl⟩ := hok.cfg
    refine (began_yes hc A1 n1 k1 w.heap.size hle hcap hbw.size HOP).mono ?_
    rintro _ w2 ⟨D, F, d, m, rfl, hL, hmn, hdl, _⟩
    have HL := Lib.hid hL
    have HC := Lib.hid hc
    have hmb : m < 4611686018427387000 := by omega
    obtain ⟨q7, q8, q9, q0, q1, q2, q5⟩ := HBX.out w2 hL.below
    clear r0 r1 r2 r3 r4 r5 r6 hok hmn
    go_wp2_with fail
    refine (another_any qq (c.n : Int) (c.self : Int) w2 hq0 hq1 hn0 hn1).mono ?_
    rintro _ _ ⟨rfl, rfl⟩
    rcases anoZ_of hc qq with ⟨_, ha⟩ | ⟨j, ha, hj, hjs⟩
    · rw [ha]
      have HE : Hid (Below w.heap.size w w2) := hbw.trans (hL.below.mono hbw.size)
      clear ha hL hc
      go_wp2
      go_ret
      exact ⟨rfl, HE.out⟩
    · rw [ha]
      clear ha hL hc
      obtain ⟨p0, p1, _, _, _, _, _, p7, p8, p9, pa⟩ := HL.out.ok.p j
      have HKN : Hid (knownQ c d (j : Int) = (d.pr j).known) := Lib.hid (by
        rw [knownQ, if_neg (by omega), if_pos (by simp [otherB]; omega), Int.toNat_natCast])
      obtain ⟨kn, hkn⟩ : ∃ kn, kn = (d.pr j).known := ⟨_, rfl⟩
      obtain ⟨t, ht⟩ : ∃ t, t = (d.pr j).tmo := ⟨_, rfl⟩
      obtain ⟨wg, hwg⟩ : ∃ wg, wg = (d.pr j).wrong := ⟨_, rfl⟩
      rw [← hkn] at p0 p1 HKN
      rw [← ht] at p7 p8
      rw [← hwg] at p9 pa
      have HSS := Lib.hid fun (hb : kn + 1 ≤ 4611686018427387904) => sil_start HC.out hj hjs hdl (by rw [← hkn]; exact p0) (by rw [← hkn]; exact hb) (by rw [← ht]; exact p7)
      rw [← hkn, ← ht, ← hwg] at HSS
      have HKP := Lib.hid hkn
      clear hkn ht hwg
      go_wp2_with fail
      refine (PKnown_x HC.out HL.out (j : Int)).mono ?_
      rintro _ _ ⟨rfl, rfl⟩
      rw [HKN.out]
      have HE : Hid (Below w.heap.size w w2) := hbw.trans (HL.out.below.mono hbw.size)
      by_cases hbig : 4611686018427387904 < kn + 1
      · have e1 : (kn + 1 == 4611686018427387905) = true := by simp; omega
        have hbig' : kn + 1 > 4611686018427387904 := hbig
        go_wp2
        go_ret
        exact ⟨rfl, HE.out⟩
      have hle1 : kn + 1 ≤ 4611686018427387904 := by omega
      have HS := Lib.hid (HSS.out hle1)
      have hlim : c.lim ≤ 64 := HC.out.2.2.2.2.2.2.1
      have hlim1 : 1 ≤ c.lim := HC.out.2.2.2.2.2.1
      have hn16 : c.n ≤ 16 := HC.out.2.1
      have hsf : c.self < c.n := HC.out.2.2.1
      go_wp2_with fail
      refine (hears_any c.n c.self c.inc w2 hn16 hsf).mono ?_
      rintro _ w3 ⟨g, rfl, hg, hB, hb3⟩
      have HPH := Lib.hid (PHeard_f HC.out HL.out (by omega) g (hearsZ c.n c.self c.inc).length (hearsZ c.n c.self c.inc) (j : Int) (kn + 1) 5 (by rw [hearsZ_len]; omega) w3 hb3 hg hB)
      rw [HS.out.1] at HPH
      have HF1 := Lib.hid (sil_first (c := c) hjs p0 HKP.out.symm HS.out.2.2)
      have HSL := Lib.hid HS.out.2.1
      clear HSS HS hB hg
      generalize hearD c d (j : Int) (kn + 1) 5 (hearsZ c.n c.self c.inc) = d1 at *
      clear q0 q1 q2 q5 q7 q8 q9
      go_wp2_with fail
      refine HPH.out.mono ?_
      rintro _ w4 ⟨rfl, h4, _⟩
      have HL4 := Lib.hid h4
      clear HPH h4
      have HH := Lib.hid (PHears_x HC.out HL4.out)
      have HEs := Lib.hid fun (w1 : World) (hb : Below w4.heap.size w4 w1) => PEst_x HC.out (HL4.out.over hb)
      have HSu := Lib.hid fun (w1 : World) (hb : Below w4.heap.size w4 w1) => PSusp_x HC.out (HL4.out.over hb)
      have A1 : Hid (atZ (hearsL c d1) (j : Int) = kn + 1 ∧ (hearsL c d1).length ≤ 16) := Lib.hid ⟨by rw [at_hears c d1 hj, HF1.out.1], by rw [hears_len]; exact hn16⟩
      have A2' : Hid (atZ (estL c d1) (j : Int) = kn + 1 ∧ (estL c d1).length ≤ 16) := Lib.hid ⟨by rw [at_est c d1 hj, HF1.out.2.1], by rw [est_len]; exact hn16⟩
      have A3 : Hid (holdsB (suspL c d1 c.n) (j : Int) = false ∧ (suspL c d1 c.n).length ≤ 16) := Lib.hid ⟨by rw [holds_susp c d1 hj, HF1.out.2.2], by have := suspL_len c d1 c.n; omega⟩
      generalize hearsL c d1 = L1 at *
      generalize estL c d1 = L2 at *
      generalize suspL c d1 c.n = L3 at *
      go_wp2_with fail
      refine (num_any 0 _ (by omega) (by omega)).mono ?_
      rintro _ _ ⟨rfl, rfl⟩
      go_wp2_with fail
      refine HH.out.mono ?_
      intro e1 w5 g1
      obtain ⟨B1, kk1, rfl, hr1, hb5⟩ := g1.rd
      have H1 := Lib.hid (at_any B1 L1.length kk1 L1 (j : Int) w5 hr1)
      rw [A1.out.1] at H1
      clear g1 hr1
      go_wp2_with fail
      refine H1.out.mono ?_
      rintro _ _ ⟨rfl, rfl⟩
      go_wp2_with fail
      refine (HEs.out w5 hb5).mono ?_
      intro e2 w6 g2
      obtain ⟨B2, kk2, rfl, hr2, hb6⟩ := g2.rd
      have hb06 := hb5.trans (hb6.mono hb5.size)
      have H2 := Lib.hid (at_any B2 L2.length kk2 L2 (j : Int) w6 hr2)
      rw [A2'.out.1] at H2
      clear g2 hr2
      go_wp2_with fail
      refine H2.out.mono ?_
      rintro _ _ ⟨rfl, rfl⟩
      go_wp2_with fail
      refine (HSu.out w6 hb06).mono ?_
      intro e3 w7 g3
      obtain ⟨B3, kk3, rfl, hr3, hb7⟩ := g3.rd
      have hb07 := hb06.trans (hb7.mono hb06.size)
      have H3 := Lib.hid (holds_any B3 L3.length kk3 L3 (j : Int) w7 hr3 (by have := A3.out.2; omega))
      rw [A3.out.1] at H3
      clear g3 hr3
      go_wp2_with fail
      refine H3.out.mono ?_
      rintro _ _ ⟨rfl, rfl⟩
      have HL7 := Lib.hid (HL4.out.over hb07)
      have HWQ : Hid (wrongQ c d1 (j : Int) = wg) := Lib.hid (by rw [wrongQ, if_pos (by simp [otherB]; omega), Int.toNat_natCast, HSL.out.wrong])
      go_wp2_with fail
      refine (PWrong_x HC.out HL7.out (j : Int)).mono ?_
      rintro _ _ ⟨rfl, rfl⟩
      rw [HWQ.out]
      clear hb5 hb6 hb06 hb7 hb07 hb3
      obtain ⟨T, hT⟩ : ∃ T, T = c.lim + posZ more 100 := ⟨_, rfl⟩
      have hpz := posZ_bd (v := more) (n := 100) (by omega)
      have HT := Lib.hid hT
      have hT1 : 1 ≤ T := by omega
      have hT2 : T ≤ 170 := by omega
      have hTl : c.lim ≤ T := by omega
      clear hT
      go_wp2_with fail
      go_loopw [10, 11, 12] (fun i _ _ wr => ∃ (i' : Nat) (dd : DSt), (i' : Int) ≤ T + 1 ∧ i = .int .i64 (i' : Int) ∧ Hid (Live w1 wr F c D dd (m + 1) ∧ Sil dd j (kn + 1) t wg i')) (fun i _ _ _ => (T + 1).toNat - (intOf i).toNat)
      case atStart => exact ⟨0, d1, by omega, rfl, Lib.hid ⟨HL7.out, HSL.out⟩⟩
      case round =>
        clear HL7 HSL HL4 HH HEs HSu A1 A2' A3 HF1 H1 H2 H3 HL HE HWQ
        obtain ⟨i', dd, hi', rfl, HLS⟩ := hrel
        obtain ⟨q7, q8, q9, q0, q1, q2, q5⟩ := HBX.out wr HLS.out.1.below
        have hwrap : IntKind.i64.wrap (c.lim + posZ more 100) = c.lim + posZ more 100 := IntWalk.i64_in _ (by omega)
        by_cases hlt : (i' : Int) ≤ T
        · have hlt' : (i' : Int) ≤ c.lim + posZ more 100 := by rw [← HT.out]; exact hlt
          go_upto_region 14 with fail
          go_quiet ((go_at_call 12; exact Calls.quiet_of_same (pos_c more 100 _ hm0 hm1 (by omega))))
          have HLQ := Lib.hid (HLS.out.1.over (below_drewN (Below.refl _ _) nq))
          clear hwrap hlt' q0 q1 q2 q5 q7 q8 q9
          generalize wr.drewN nq = wq at *
          obtain ⟨q7, q8, q9, q0, q1, q2, q5⟩ := HBX.out wq HLQ.out.below
          by_cases hgt : c.lim < (i' : Int)
          · have hgt' : (i' : Int) > c.lim := hgt
            have hgn := sil_gone (c := c) hjs HLS.out.2 (by omega) (by omega)
            have HGY := Lib.hid (gone_yes HC.out HLQ.out hj hgn.1 hgn.2.1 hgn.2.2)
            clear hgn
            go_wp2_with fail
            refine HGY.out.mono ?_
            rintro _ wg2 ⟨rfl, hbg⟩
            have HLT := Lib.hid (HLQ.out.over hbg)
            clear q0 q1 q2 q5 q7 q8 q9 HGY
            go_wp2_with fail
            refine (PTick_x HC.out HLT.out).mono ?_
            rintro _ w8 ⟨rfl, h8, _⟩
            have HL8 := Lib.hid h8
            have HS8 := Lib.hid (HLS.out.2.tick)
            generalize tickD dd = dt at *
            clear h8
            go_wp2_with fail
            go_loopw [11, 12] (fun a _ wr => ∃ a' : Nat, a' ≤ 4 ∧ a = .int .i64 (a' : Int) ∧ Hid (Live w1 wr F c D dt (m + 1))) (fun a _ _ => 4 - (intOf a).toNat)
            case atStart => exact ⟨0, by omega, rfl, HL8⟩
            case round =>
              clear HL8
              obtain ⟨a', ha', rfl, HLR⟩ := hrel
              obtain ⟨q7, q8, q9, q0, q1, q2, q5⟩ := HBX.out wr HLR.out.below
              by_cases h4 : a' < 4
              · by_cases hn2 : a' < n2
                · have h4I : (a' : Int) < 4 := by omega
                  have hn2I : (a' : Int) < (n2 : Int) := by omega
                  obtain ⟨b, off, x, rfl, hbl, hx, hcell⟩ := ((HR2.out.below hbw).below (HLR.out.below.mono hbw.size)).int hn2
                  have hxb := HB2.out x (List.mem_of_getElem? hx)
                  have hpb := posZ_bd (v := x) (n := 6) (by omega)
                  have HPP := Lib.hid fun (W : World) => pos_any x 6 W hxb.1 hxb.2 (by omega)
                  have HHH := Lib.hid fun (W : World) => hears_any c.n c.self c.inc W hn16 hsf
                  have HPX := Lib.hid fun (W : World) (hbW : Below wr.heap.size wr W) (g : Nat) (hgW : wr.heap.size ≤ g) (hBW : Blk W g 3 (rg (hearsZ c.n c.self c.inc).length fun k => .int .i64 ((hearsZ c.n c.self c.inc).getD k 0))) => stale_call HC.out hj hjs HLR.out HS8.out (by omega) hle1 (by omega) (posZ x 6) hpb.1 (by omega) W hbW g hgW hBW
                  have HXO : Hid (∀ W, Below w1.heap.size w1 W → W.cell? ⟨w.heap.size, 9, none⟩ = some (.slice (some ⟨b, off, none⟩) n2 k2) ∧ W.cell? ⟨b, off + a', none⟩ = some (.int .i64 x) ∧ W.cell? ⟨w.heap.size + 1, 0, none⟩ = some (.int .i64 (c.n : Int)) ∧ W.cell? ⟨w.heap.size + 1, 1, none⟩ = some (.int .i64 (c.self : Int)) ∧ W.cell? ⟨w.heap.size + 1, 2, none⟩ = some (.int .i64 c.inc)) := Lib.hid fun W hb => by
                    obtain ⟨_, _, y9, y0, y1, y2, _⟩ := HBX.out W hb
                    have hc1 : w1.cell? ⟨b, off + a', none⟩ = some (.int .i64 x) := ((HLR.out.below.cell (p := ⟨b, off + a', none⟩) (by have := hbw.size; show b < w1.heap.size; omega)).symm).trans hcell
                    exact ⟨y9, (hb.cell (p := ⟨b, off + a', none⟩) (by have := hbw.size; show b < w1.heap.size; omega)).trans hc1, y0, y1, y2⟩
                  have hsz := HLR.out.below.size
                  have hx0 := HXO.out wr.drew (HLR.out.below.trans ((below_drewN (Below.refl _ _) 1).mono hsz))
                  clear hx hxb q0 q1 q2 q5 q7 q8
                  go_wp2_with fail
                  go_region_held3 (fun w' => w'.cell? ⟨w.heap.size, 9, none⟩ = some (.slice (some ⟨b, off, none⟩) n2 k2) ∧ w'.cell? ⟨b, off + a', none⟩ = some (.int .i64 x) ∧ w'.cell? ⟨w.heap.size + 1, 0, none⟩ = some (.int .i64 (c.n : Int)) ∧ w'.cell? ⟨w.heap.size + 1, 1, none⟩ = some (.int .i64 (c.self : Int)) ∧ w'.cell? ⟨w.heap.size + 1, 2, none⟩ = some (.int .i64 c.inc)) ((first | exact hx2 | exact hx1 | exact hx0)) ((first
                    | (go_at_call 12; refine (HPP.out _).mono ?_; rintro _ _ ⟨rfl, rfl⟩)
                    | (go_at_call 14; refine (HHH.out wr.drew).mono ?_; rintro _ w9 ⟨g9, rfl, hg9, hB9, hb9⟩; have hb39 : Below wr.heap.size wr w9 := (below_drewN (Below.refl _ _) 1).trans hb9; have hx1 := HXO.out w9 (HLR.out.below.trans (hb39.mono hsz)); have HG9 := Lib.hid (And.intro hg9 hB9); clear hg9 hB9 hb9)
                    | (go_at_call 13; refine (HPX.out w9 hb39 g9 HG9.out.1 HG9.out.2).mono ?_; rintro _ w10 ⟨rfl, h10⟩; have hx2 := HXO.out w10 h10.below; have H10 := Lib.hid h10; clear h10)))
                  all_goals
                    clear hx0 hx1 hx2 hcell
                    go_wp2_with (go_at_call 15; refine (num_any _ _ (by omega) (by omega)).mono ?_; rintro _ _ ⟨rfl, rfl⟩)
                    go_roundw
                    case rel => exact ⟨a' + 1, by omega, by go_num, H10⟩
                    case measure => simp [intOf] <;> omega
                · have hn2I : ¬ (a' : Int) < (n2 : Int) := by omega
                  go_wp2
                  go_roundw
                  case rel => exact ⟨i' + 1, dt, by omega, by go_num, Lib.hid ⟨HLR.out, HS8.out⟩⟩
                  case measure => simp [intOf] <;> omega
              · have h4I : ¬ (a' : Int) < 4 := by omega
                have hd4 : decide ((a' : Int) < 4) = false := decide_eq_false h4I
                by_cases hn2 : a' < n2
                · have hn2I : (a' : Int) < (n2 : Int) := by omega
                  go_wp2
                  go_roundw
                  case rel => exact ⟨i' + 1, dt, by omega, by go_num, Lib.hid ⟨HLR.out, HS8.out⟩⟩
                  case measure => simp [intOf] <;> omega
                · have hn2I : ¬ (a' : Int) < (n2 : Int) := by omega
                  go_wp2
                  go_roundw
                  case rel => exact ⟨i' + 1, dt, by omega, by go_num, Lib.hid ⟨HLR.out, HS8.out⟩⟩
                  case measure => simp [intOf] <;> omega
          · have hgt' : ¬ (i' : Int) > c.lim := hgt
            have HLT := HLQ
            go_wp2_with fail
            refine (PTick_x HC.out HLT.out).mono ?_
            rintro _ w8 ⟨rfl, h8, _⟩
            have HL8 := Lib.hid h8
            have HS8 := Lib.hid (HLS.out.2.tick)
            generalize tickD dd = dt at *
            clear h8
            go_wp2_with fail
            go_loopw [11, 12] (fun a _ wr => ∃ a' : Nat, a' ≤ 4 ∧ a = .int .i64 (a' : Int) ∧ Hid (Live w1 wr F c D dt (m + 1))) (fun a _ _ => 4 - (intOf a).toNat)
            case atStart => exact ⟨0, by omega, rfl, HL8⟩
            case round =>
              clear HL8
              obtain ⟨a', ha', rfl, HLR⟩ := hrel
              obtain ⟨q7, q8, q9, q0, q1, q2, q5⟩ := HBX.out wr HLR.out.below
              by_cases h4 : a' < 4
              · by_cases hn2 : a' < n2
                · have h4I : (a' : Int) < 4 := by omega
                  have hn2I : (a' : Int) < (n2 : Int) := by omega
                  obtain ⟨b, off, x, rfl, hbl, hx, hcell⟩ := ((HR2.out.below hbw).below (HLR.out.below.mono hbw.size)).int hn2
                  have hxb := HB2.out x (List.mem_of_getElem? hx)
                  have hpb := posZ_bd (v := x) (n := 6) (by omega)
                  have HPP := Lib.hid fun (W : World) => pos_any x 6 W hxb.1 hxb.2 (by omega)
                  have HHH := Lib.hid fun (W : World) => hears_any c.n c.self c.inc W hn16 hsf
                  have HPX := Lib.hid fun (W : World) (hbW : Below wr.heap.size wr W) (g : Nat) (hgW : wr.heap.size ≤ g) (hBW : Blk W g 3 (rg (hearsZ c.n c.self c.inc).length fun k => .int .i64 ((hearsZ c.n c.self c.inc).getD k 0))) => stale_call HC.out hj hjs HLR.out HS8.out (by omega) hle1 (by omega) (posZ x 6) hpb.1 (by omega) W hbW g hgW hBW
                  have HXO : Hid (∀ W, Below w1.heap.size w1 W → W.cell? ⟨w.heap.size, 9, none⟩ = some (.slice (some ⟨b, off, none⟩) n2 k2) ∧ W.cell? ⟨b, off + a', none⟩ = some (.int .i64 x) ∧ W.cell? ⟨w.heap.size + 1, 0, none⟩ = some (.int .i64 (c.n : Int)) ∧ W.cell? ⟨w.heap.size + 1, 1, none⟩ = some (.int .i64 (c.self : Int)) ∧ W.cell? ⟨w.heap.size + 1, 2, none⟩ = some (.int .i64 c.inc)) := Lib.hid fun W hb => by
                    obtain ⟨_, _, y9, y0, y1, y2, _⟩ := HBX.out W hb
                    have hc1 : w1.cell? ⟨b, off + a', none⟩ = some (.int .i64 x) := ((HLR.out.below.cell (p := ⟨b, off + a', none⟩) (by have := hbw.size; show b < w1.heap.size; omega)).symm).trans hcell
                    exact ⟨y9, (hb.cell (p := ⟨b, off + a', none⟩) (by have := hbw.size; show b < w1.heap.size; omega)).trans hc1, y0, y1, y2⟩
                  have hsz := HLR.out.below.size
                  have hx0 := HXO.out wr.drew (HLR.out.below.trans ((below_drewN (Below.refl _ _) 1).mono hsz))
                  clear hx hxb q0 q1 q2 q5 q7 q8
                  go_wp2_with fail
                  go_region_held3 (fun w' => w'.cell? ⟨w.heap.size, 9, none⟩ = some (.slice (some ⟨b, off, none⟩) n2 k2) ∧ w'.cell? ⟨b, off + a', none⟩ = some (.int .i64 x) ∧ w'.cell? ⟨w.heap.size + 1, 0, none⟩ = some (.int .i64 (c.n : Int)) ∧ w'.cell? ⟨w.heap.size + 1, 1, none⟩ = some (.int .i64 (c.self : Int)) ∧ w'.cell? ⟨w.heap.size + 1, 2, none⟩ = some (.int .i64 c.inc)) ((first | exact hx2 | exact hx1 | exact hx0)) ((first
                    | (go_at_call 12; refine (HPP.out _).mono ?_; rintro _ _ ⟨rfl, rfl⟩)
                    | (go_at_call 14; refine (HHH.out wr.drew).mono ?_; rintro _ w9 ⟨g9, rfl, hg9, hB9, hb9⟩; have hb39 : Below wr.heap.size wr w9 := (below_drewN (Below.refl _ _) 1).trans hb9; have hx1 := HXO.out w9 (HLR.out.below.trans (hb39.mono hsz)); have HG9 := Lib.hid (And.intro hg9 hB9); clear hg9 hB9 hb9)
                    | (go_at_call 13; refine (HPX.out w9 hb39 g9 HG9.out.1 HG9.out.2).mono ?_; rintro _ w10 ⟨rfl, h10⟩; have hx2 := HXO.out w10 h10.below; have H10 := Lib.hid h10; clear h10)))
                  all_goals
                    clear hx0 hx1 hx2 hcell
                    go_wp2_with (go_at_call 15; refine (num_any _ _ (by omega) (by omega)).mono ?_; rintro _ _ ⟨rfl, rfl⟩)
                    go_roundw
                    case rel => exact ⟨a' + 1, by omega, by go_num, H10⟩
                    case measure => simp [intOf] <;> omega
                · have hn2I : ¬ (a' : Int) < (n2 : Int) := by omega
                  go_wp2
                  go_roundw
                  case rel => exact ⟨i' + 1, dt, by omega, by go_num, Lib.hid ⟨HLR.out, HS8.out⟩⟩
                  case measure => simp [intOf] <;> omega
              · have h4I : ¬ (a' : Int) < 4 := by omega
                have hd4 : decide ((a' : Int) < 4) = false := decide_eq_false h4I
                by_cases hn2 : a' < n2
                · have hn2I : (a' : Int) < (n2 : Int) := by omega
                  go_wp2
                  go_roundw
                  case rel => exact ⟨i' + 1, dt, by omega, by go_num, Lib.hid ⟨HLR.out, HS8.out⟩⟩
                  case measure => simp [intOf] <;> omega
                · have hn2I : ¬ (a' : Int) < (n2 : Int) := by omega
                  go_wp2
                  go_roundw
                  case rel => exact ⟨i' + 1, dt, by omega, by go_num, Lib.hid ⟨HLR.out, HS8.out⟩⟩
                  case measure => simp [intOf] <;> omega
        · have hlt' : ¬ (i' : Int) ≤ c.lim + posZ more 100 := by rw [← HT.out]; exact hlt
          have hieq : c.lim < (i' : Int) := by omega
          go_upto_region 14 with fail
          go_quiet ((go_at_call 12; exact Calls.quiet_of_same (pos_c more 100 _ hm0 hm1 (by omega))))
          have HLQ := Lib.hid (HLS.out.1.over (below_drewN (Below.refl _ _) nq))
          clear hwrap hlt' q0 q1 q2 q5 q7 q8 q9
          generalize wr.drewN nq = wq at *
          have hgn := sil_gone (c := c) hjs HLS.out.2 (by omega) (by omega)
          have HGY := Lib.hid (gone_yes HC.out HLQ.out hj hgn.1 hgn.2.1 hgn.2.2)
          clear hgn
          go_wp2_with fail
          refine HGY.out.mono ?_
          rintro _ wy ⟨rfl, hby⟩
          have HLY := Lib.hid (HLQ.out.over hby)
          have HWQ : Hid (wrongQ c dd (j : Int) = wg) := Lib.hid (by rw [wrongQ, if_pos (by simp [otherB]; omega), Int.toNat_natCast, HLS.out.2.wrong])
          go_wp2_with fail
          refine (PWrong_x HC.out HLY.out (j : Int)).mono ?_
          rintro _ _ ⟨rfl, rfl⟩
          rw [HWQ.out]
          obtain ⟨q7, q8, q9, q0, q1, q2, q5⟩ := HBX.out wy HLY.out.below
          have HLA := Lib.hid (sil_last HC.out hj hjs HLS.out.2 (by omega) (by omega) hle1)
          go_wp2_with fail
          refine (hears_any c.n c.self 0 wy hn16 hsf).mono ?_
          rintro _ wz ⟨gz, rfl, hgz, hBz, hbz⟩
          have HPH := Lib.hid (PHeard_f HC.out HLY.out (by omega) gz (hearsZ c.n c.self 0).length (hearsZ c.n c.self 0) (j : Int) (kn + 1) 6 (by rw [hearsZ_len]; omega) wz hbz hgz hBz)
          rw [HLA.out.1] at HPH
          have HF1 := Lib.hid HLA.out.2
          clear HLA hBz hgz q0 q1 q2 q5 q7 q8 q9
          generalize hearD c dd (j : Int) (kn + 1) 6 (hearsZ c.n c.self 0) = d2 at *
          go_wp2_with fail
          refine HPH.out.mono ?_
          rintro _ w4 ⟨rfl, h4, _⟩
          have HL4 := Lib.hid h4
          clear HPH h4
          have HH := Lib.hid (PHears_x HC.out HL4.out)
          have HEs := Lib.hid fun (w1 : World) (hb : Below w4.heap.size w4 w1) => PEst_x HC.out (HL4.out.over hb)
          have HSu := Lib.hid fun (w1 : World) (hb : Below w4.heap.size w4 w1) => PSusp_x HC.out (HL4.out.over hb)
          have A1 : Hid (atZ (hearsL c d2) (j : Int) = kn + 1 ∧ (hearsL c d2).length ≤ 16) := Lib.hid ⟨by rw [at_hears c d2 hj, HF1.out.1], by rw [hears_len]; exact hn16⟩
          have A2' : Hid (atZ (estL c d2) (j : Int) = 0 ∧ (estL c d2).length ≤ 16) := Lib.hid ⟨by rw [at_est c d2 hj, HF1.out.2.1], by rw [est_len]; exact hn16⟩
          have A3 : Hid (holdsB (suspL c d2 c.n) (j : Int) = false ∧ (suspL c d2 c.n).length ≤ 16) := Lib.hid ⟨by rw [holds_susp c d2 hj, HF1.out.2.2.1], by have := suspL_len c d2 c.n; omega⟩
          have HWZ : Hid (wrongQ c d2 (j : Int) = wg + 1) := Lib.hid (by rw [wrongQ, if_pos (by simp [otherB]; omega), Int.toNat_natCast, HF1.out.2.2.2])
          generalize hearsL c d2 = L1 at *
          generalize estL c d2 = L2 at *
          generalize suspL c d2 c.n = L3 at *
          go_wp2_with fail
          refine (num_any 0 _ (by omega) (by omega)).mono ?_
          rintro _ _ ⟨rfl, rfl⟩
          go_wp2_with fail
          refine HH.out.mono ?_
          intro e1 w5 g1
          obtain ⟨B1, kk1, rfl, hr1, hb5⟩ := g1.rd
          have H1 := Lib.hid (at_any B1 L1.length kk1 L1 (j : Int) w5 hr1)
          rw [A1.out.1] at H1
          clear g1 hr1
          go_wp2_with fail
          refine H1.out.mono ?_
          rintro _ _ ⟨rfl, rfl⟩
          go_wp2_with fail
          refine (HEs.out w5 hb5).mono ?_
          intro e2 w6 g2
          obtain ⟨B2, kk2, rfl, hr2, hb6⟩ := g2.rd
          have hb06 := hb5.trans (hb6.mono hb5.size)
          have H2 := Lib.hid (at_any B2 L2.length kk2 L2 (j : Int) w6 hr2)
          rw [A2'.out.1] at H2
          clear g2 hr2
          go_wp2_with fail
          refine H2.out.mono ?_
          rintro _ _ ⟨rfl, rfl⟩
          go_wp2_with fail
          refine (HSu.out w6 hb06).mono ?_
          intro e3 w7 g3
          obtain ⟨B3, kk3, rfl, hr3, hb7⟩ := g3.rd
          have hb07 := hb06.trans (hb7.mono hb06.size)
          have H3 := Lib.hid (holds_any B3 L3.length kk3 L3 (j : Int) w7 hr3 (by have := A3.out.2; omega))
          rw [A3.out.1] at H3
          clear g3 hr3
          go_wp2_with fail
          refine H3.out.mono ?_
          rintro _ _ ⟨rfl, rfl⟩
          have HL7 := Lib.hid (HL4.out.over hb07)
          go_wp2_with fail
          refine (PWrong_x HC.out HL7.out (j : Int)).mono ?_
          rintro _ _ ⟨rfl, rfl⟩
          rw [HWZ.out]
          have HE : Hid (Below w.heap.size w w7) := hbw.trans (HL7.out.below.mono hbw.size)
          go_wp2
          go_ret
          exact ⟨rfl, HE.out⟩
  · have HK := Lib.hid hok
    clear hok
    refine (began_no x0 x1 x2 x3 x4 x5 HK.out hn0 hn1 A1 n1 k1).mono ?_
    rintro _ w2 ⟨rfl, hb2⟩
    obtain ⟨q7, q8, q9, q0, q1, q2, q5⟩ := HBX.out w2 hb2
    have HE : Hid (Below w.heap.size w w2) := hbw.trans (hb2.mono hbw.size)
    clear r0 r1 r2 r3 r4 r5 r6
    go_wp2_with fail
    refine (another_any qq x0 x1 w2 hq0 hq1 hn0 hn1).mono ?_
    rintro _ _ ⟨rfl, rfl⟩
    go_wp2
    go_ret
    exact ⟨rfl, HE.out⟩
end Go.Proofs.Ytfjpmoigpnmeoaa
