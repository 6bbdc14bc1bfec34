/-
  DetectSettles, walked.
-/
import Derived.Test.YtfjpmoigpnmeoaaDSetP
import Derived.IntWalk
namespace Go.Proofs.Ytfjpmoigpnmeoaa
open Go.RowKit
theorem pos_d (v n : Int) (w : World) (h0 : -9223372036854775808 ≤ v) (h1 : v ≤ 9223372036854775807) (hn : n ≤ 9223372036854775807) :
    Calls Try.prog 12 #[.int .i64 v, .int .i64 n] w fun e w' => e = .returned (.int .i64 (posZ v n)) ∧ w' = w := (pos_any v n w h0 h1 hn).mono fun _ _ ⟨h, h2⟩ => ⟨h, h2.symm⟩
set_option maxRecDepth 100000 in
set_option maxHeartbeats 1600000 in
theorem least_any (a b : Int) (w : World) :
    Calls Try.prog 20 #[.int .i64 a, .int .i64 b] w fun e w' => e = .returned (.int .i64 (min a b)) ∧ w = w' := by
  by_cases h : a < b
  · have HP : Hid (min a b = a) := Lib.hid (by omega)
    go_enter Try.func20, Try.ntmps20
    go_wp2
    go_ret
    exact ⟨ret_int HP.out.symm, rfl⟩
  · have HP : Hid (min a b = b) := Lib.hid (by omega)
    go_enter Try.func20, Try.ntmps20
    go_wp2
    go_ret
    exact ⟨ret_int HP.out.symm, rfl⟩
set_option maxRecDepth 100000 in
set_option maxHeartbeats 12800000 in
theorem DetectSettles_core (x0 x1 x2 x3 x4 x5 : Int) (qq fst : Int) (A2 : Option Addr) (n2 k2 : Nat) (gps : List Int) (w : World) (hn0 : -9223372036854775808 ≤ x0) (hn1 : x0 ≤ 9223372036854775807)
    (hq0 : -9223372036854775808 ≤ qq) (hq1 : qq ≤ 9223372036854775807) (hm0 : -9223372036854775808 ≤ fst) (hm1 : fst ≤ 9223372036854775807) (hl2 : n2 ≤ k2) (hc2 : k2 * 8 ≤ 140737488351232) (hr2 : RdI w w.heap.size A2 n2 gps) (hb2 : ∀ x ∈ gps, -9223372036854775808 ≤ x ∧ x ≤ 9223372036854775807) :
    Calls Try.prog 3 #[.agg #[.int .i64 x0, .int .i64 x1, .int .i64 x2, .int .i64 x3, .int .i64 x4, .int .i64 x5, .int .i64 qq, .int .i64 fst, .slice A2 n2 k2]] w (AsksOk w) := by
  have HB2 := Lib.hid hb2
  have HR2 := Lib.hid hr2
  have hb0 := one_box' w (.cells #[.int .i64 x0, .int .i64 x1, .int .i64 x2, .int .i64 x3, .int .i64 x4, .int .i64 x5, .int .i64 qq, .int .i64 fst, .slice A2 n2 k2] 24)
  have hS := Blk.new w 24 #[.int .i64 x0, .int .i64 x1, .int .i64 x2, .int .i64 x3, .int .i64 x4, .int .i64 x5, .int .i64 qq, .int .i64 fst, .slice A2 n2 k2]
  have hz0 : (w.alloc (.cells #[.int .i64 x0, .int .i64 x1, .int .i64 x2, .int .i64 x3, .int .i64 x4, .int .i64 x5, .int .i64 qq, .int .i64 fst, .slice A2 n2 k2] 24)).heap.size = w.heap.size + 1 := by simp
  obtain ⟨w0, hw0⟩ : ∃ w0, w0 = w.alloc (.cells #[.int .i64 x0, .int .i64 x1, .int .i64 x2, .int .i64 x3, .int .i64 x4, .int .i64 x5, .int .i64 qq, .int .i64 fst, .slice A2 n2 k2] 24) := ⟨_, rfl⟩
  rw [← hw0] at hb0 hS hz0
  have HW0 := Lib.hid hw0
  have hb1 := one_box' w0 (.cells #[.int .i64 x0, .int .i64 x1, .int .i64 x2, .int .i64 x3, .int .i64 x4, .int .i64 x5, .slice none 0 0] 27)
  have hR := Blk.new w0 27 #[.int .i64 x0, .int .i64 x1, .int .i64 x2, .int .i64 x3, .int .i64 x4, .int .i64 x5, .slice none 0 0]
  have hS1 := hS.over hb1
  obtain ⟨w1, hw1⟩ : ∃ w1, w1 = w0.alloc (.cells #[.int .i64 x0, .int .i64 x1, .int .i64 x2, .int .i64 x3, .int .i64 x4, .int .i64 x5, .slice none 0 0] 27) := ⟨_, rfl⟩
  rw [← hw1] at hb1 hR hS1
  have HW1 := Lib.hid hw1
  rw [hz0] at hR
  have hs0 := hb0.size
  have hs1 := hb1.size
  have hbw : Below w.heap.size w w1 := hb0.trans (hb1.mono hs0)
  have HOP : Hid (Ops w1 w.heap.size none 0) := Lib.hid fun h => absurd h (by omega)
  have HBX : Hid (∀ W, Below w1.heap.size w1 W → W.cell? ⟨w.heap.size, 0, none⟩ = some (.int .i64 x0) ∧ W.cell? ⟨w.heap.size, 1, none⟩ = some (.int .i64 x1) ∧ W.cell? ⟨w.heap.size, 2, none⟩ = some (.int .i64 x2) ∧ W.cell? ⟨w.heap.size, 3, none⟩ = some (.int .i64 x3) ∧ W.cell? ⟨w.heap.size, 4, none⟩ = some (.int .i64 x4) ∧ W.cell? ⟨w.heap.size, 5, none⟩ = some (.int .i64 x5) ∧ W.cell? ⟨w.heap.size, 6, none⟩ = some (.int .i64 qq) ∧ W.cell? ⟨w.heap.size, 7, none⟩ = some (.int .i64 fst) ∧ W.cell? ⟨w.heap.size, 8, none⟩ = some (.slice A2 n2 k2)) := Lib.hid fun W hb =>
    ⟨(hS1.over hb).cell 0, (hS1.over hb).cell 1, (hS1.over hb).cell 2, (hS1.over hb).cell 3, (hS1.over hb).cell 4, (hS1.over hb).cell 5, (hS1.over hb).cell 6, (hS1.over hb).cell 7, (hS1.over hb).cell 8⟩
  have s0 : w0.cell? ⟨w.heap.size, 0, none⟩ = some (.int .i64 x0) := hS.cell 0
  have s1 : w0.cell? ⟨w.heap.size, 1, none⟩ = some (.int .i64 x1) := hS.cell 1
  have s2 : w0.cell? ⟨w.heap.size, 2, none⟩ = some (.int .i64 x2) := hS.cell 2
  have s3 : w0.cell? ⟨w.heap.size, 3, none⟩ = some (.int .i64 x3) := hS.cell 3
  have s4 : w0.cell? ⟨w.heap.size, 4, none⟩ = some (.int .i64 x4) := hS.cell 4
  have s5 : w0.cell? ⟨w.heap.size, 5, none⟩ = some (.int .i64 x5) := hS.cell 5
  have r0 : w1.cell? ⟨w.heap.size + 1, 0, none⟩ = some (.int .i64 x0) := hR.cell 0
  have r1 : w1.cell? ⟨w.heap.size + 1, 1, none⟩ = some (.int .i64 x1) := hR.cell 1
  have r2 : w1.cell? ⟨w.heap.size + 1, 2, none⟩ = some (.int .i64 x2) := hR.cell 2
  have r3 : w1.cell? ⟨w.heap.size + 1, 3, none⟩ = some (.int .i64 x3) := hR.cell 3
  have r4 : w1.cell? ⟨w.heap.size + 1, 4, none⟩ = some (.int .i64 x4) := hR.cell 4
  have r5 : w1.cell? ⟨w.heap.size + 1, 5, none⟩ = some (.int .i64 x5) := hR.cell 5
  have r6 : w1.cell? ⟨w.heap.size + 1, 6, none⟩ = some (.slice none 0 0) := hR.cell 6
  clear hw0 hw1 hS hR hS1 hb0 hb1 hr2 hb2
  go_enter Try.func3, Try.ntmps3
  go_upto_region 1 with fail
  rw [← HW0.out]
  go_upto_region 2 with fail
  rw [← HW1.out]
  clear s0 s1 s2 s3 s4 s5
  go_wp2_with fail
  by_cases hok : NewOk x0 x1 x2 x3 x4 x5
  · obtain ⟨c, hc, rfl, rfl, rfl, rfl, rfl, rfl⟩ := hok.cfg
    refine (began_yes hc none 0 0 w.heap.size (Nat.le_refl _) (by omega) hbw.size HOP).mono ?_
    rintro _ w2 ⟨D, F, d, m, rfl, hL, hmn, hdl, hdn⟩
    obtain rfl : m = 0 := by omega
    obtain rfl := hdn rfl
    have HL := Lib.hid hL
    have HC := Lib.hid hc
    obtain ⟨q0, q1, q2, q3, q4, q5, q6, q7, q8⟩ := HBX.out w2 hL.below
    clear r0 r1 r2 r3 r4 r5 r6 hok hmn hdl hdn
    go_wp2_with fail
    refine (another_any qq (c.n : Int) (c.self : Int) w2 hq0 hq1 hn0 hn1).mono ?_
    rintro _ _ ⟨rfl, rfl⟩
    rcases anoZ_of hc qq with ⟨_, ha⟩ | ⟨j, ha, hj, hjs⟩
    · rw [ha]
      have HE : Hid (Below w.heap.size w w2) := hbw.trans (hL.below.mono hbw.size)
      clear ha hL hc
      go_wp2
      go_ret
      exact ⟨rfl, HE.out⟩
    · rw [ha]
      clear ha hL hc
      have hlim : c.lim ≤ 64 := HC.out.2.2.2.2.2.2.1
      have hlim1 : 1 ≤ c.lim := HC.out.2.2.2.2.2.1
      have hbs1 : 1 ≤ c.base := HC.out.2.2.2.2.2.2.2.1
      have hbs2 : c.base ≤ c.lim := HC.out.2.2.2.2.2.2.2.2.1
      have hst1 : 1 ≤ c.step := HC.out.2.2.2.2.2.2.2.2.2.1
      have hst2 : c.step ≤ 64 := HC.out.2.2.2.2.2.2.2.2.2.2
      have hn16 : c.n ≤ 16 := HC.out.2.1
      have hsf : c.self < c.n := HC.out.2.2.1
      have hp1 := posZ_bd (v := fst) (n := 1000) (by omega)
      have hp7 := posZ_bd (v := fst) (n := 7) (by omega)
      have HP1 := Lib.hid (pos_any fst 1000 w2 hm0 hm1 (by omega))
      have HP7 := Lib.hid (pos_any fst 7 w2 hm0 hm1 (by omega))
      generalize posZ fst 1000 = tk at *
      generalize posZ fst 7 = pz at *
      go_wp2_with fail
      refine HP1.out.mono ?_
      rintro _ _ ⟨rfl, rfl⟩
      go_wp2_with fail
      refine HP7.out.mono ?_
      rintro _ _ ⟨rfl, rfl⟩
      clear HP1 HP7
      obtain ⟨inc, hinc⟩ : ∃ inc, inc = 1 + pz := ⟨_, rfl⟩
      have HI := Lib.hid hinc
      have hi1 : 1 ≤ inc := by omega
      have hi2 : inc ≤ 7 := by omega
      have HS := Lib.hid (set_start HC.out hj hjs hi1 (show inc ≤ 4611686018427387904 by omega) hp1.1 (show tk ≤ 4611686018427387904 by omega))
      have hwi : IntKind.i64.wrap (1 + pz) = inc := by rw [hinc]; exact IntWalk.i64_in _ (by omega)
      clear hinc
      go_wp2_with fail
      refine (hears_any c.n c.self c.inc w2 hn16 hsf).mono ?_
      rintro _ w3 ⟨g, rfl, hg, hB, hb3⟩
      have HPH := Lib.hid (PHeard_f HC.out HL.out (by omega) g (hearsZ c.n c.self c.inc).length (hearsZ c.n c.self c.inc) (j : Int) inc tk (by rw [hearsZ_len]; omega) w3 hb3 hg hB)
      rw [HS.out.1] at HPH
      have HSL := Lib.hid HS.out.2
      clear HS hB hg
      generalize hearD c (DSt.new c) (j : Int) inc tk (hearsZ c.n c.self c.inc) = d1 at *
      clear q0 q1 q2 q3 q4 q5 q6 q7 q8
      go_wp2_with fail
      refine HPH.out.mono ?_
      rintro _ w4 ⟨rfl, h4, _⟩
      have HL4 := Lib.hid h4
      clear HPH h4
      obtain ⟨q0, q1, q2, q3, q4, q5, q6, q7, q8⟩ := HBX.out w4 HL4.out.below
      go_wp2_with fail
      refine (num_any 0 _ (by omega) (by omega)).mono ?_
      rintro _ _ ⟨rfl, rfl⟩
      go_wp2_with fail
      go_loopw [7, 9, 10, 11, 12, 13, 14] (fun a7 _ a10 a11 a12 _ _ wr => ∃ (i' : Nat) (dd : DSt) (last t wg : Int), i' ≤ n2 ∧ a7 = .int .i64 last ∧ a10 = .int .i64 t ∧ a11 = .int .i64 wg ∧ a12 = .int .i64 (i' : Int) ∧ Hid (last = tk + (i' : Int)) ∧ Hid (SInv c t wg) ∧ Hid (Live w1 wr F c D dd (i' + 1) ∧ SetL dd j inc last t wg 0)) (fun _ _ _ _ a12 _ _ _ => n2 - (intOf a12).toNat)
      case atStart => exact ⟨0, d1, tk, c.base, 0, by omega, rfl, rfl, rfl, rfl, Lib.hid (by simp), Lib.hid (sinv_start HC.out), Lib.hid ⟨HL4.out, HSL.out⟩⟩
      case round =>
        clear HL4 HSL HL q0 q1 q2 q3 q4 q5 q6 q7 q8
        obtain ⟨i', dd, last, t, wg, hi', rfl, rfl, rfl, rfl, HLA, HSI, HLS⟩ := hrel
        have hwg0 := HSI.out.1
        have ht1 := HSI.out.2.1
        have htl := HSI.out.2.2.1
        have hse := sinv_end HC.out HSI.out
        have hla := HLA.out
        have hl0 : 0 ≤ last := by omega
        have hl1 : last ≤ 1152921504606846976 := by omega
        clear hla
        obtain ⟨q0, q1, q2, q3, q4, q5, q6, q7, q8⟩ := HBX.out wr HLS.out.1.below
        by_cases hlt : i' < n2
        · have hI : (i' : Int) < (n2 : Int) := by omega
          obtain ⟨b, off, x, rfl, hbl, hx, hcell⟩ := ((HR2.out.below hbw).below (HLS.out.1.below.mono hbw.size)).int hlt
          have hxb := HB2.out x (List.mem_of_getElem? hx)
          have hpb := posZ_bd (v := x) (n := c.lim + 1) (by omega)
          have hwrap : IntKind.i64.wrap (c.lim + 1) = c.lim + 1 := IntWalk.i64_in _ (by omega)
          clear hx
          go_upto_region 16 with fail
          go_quiet ((go_at_call 12; exact Calls.quiet_of_same (pos_d x (c.lim + 1) _ hxb.1 hxb.2 (by omega))))
          have HLQ := Lib.hid (HLS.out.1.over (below_drewN (Below.refl _ _) nq))
          clear hwrap hxb hcell q0 q1 q2 q3 q4 q5 q6 q7 q8
          generalize wr.drewN nq = wq at *
          obtain ⟨nn, hnn⟩ := Int.eq_ofNat_of_zero_le hpb.1
          rw [hnn] at hpb ⊢
          have hnl : (nn : Int) ≤ c.lim := by omega
          clear hnn hpb
          go_wp2_with fail
          go_loopw [14] (fun a14 ww => ∃ (k' : Nat) (dt : DSt), 1 ≤ k' ∧ k' ≤ nn + 1 ∧ a14 = .int .i64 (k' : Int) ∧ Hid (Live w1 ww F c D dt (i' + 1) ∧ SetL dt j inc last t wg (k' - 1))) (fun a14 _ => nn + 1 - (intOf a14).toNat)
          case atStart => exact ⟨1, dd, by omega, by omega, rfl, Lib.hid ⟨HLQ.out, HLS.out.2⟩⟩
          case round =>
            clear HLQ
            obtain ⟨k', dt, hk1, hk2, rfl, HK⟩ := hrel
            by_cases hkn : k' ≤ nn
            · have hkI : (k' : Int) ≤ (nn : Int) := by omega
              go_wp2_with fail
              refine (PTick_x HC.out HK.out.1).mono ?_
              rintro _ w8 ⟨rfl, h8, _⟩
              have HL8 := Lib.hid h8
              have HS8 : Hid (SetL (tickD dt) j inc last t wg k') := Lib.hid (by
                have := HK.out.2.tick
                rwa [Nat.sub_add_cancel hk1] at this)
              generalize tickD dt = d8 at *
              clear h8
              have HH := Lib.hid (PHears_x HC.out HL8.out)
              have HEs := Lib.hid fun (w1 : World) (hb : Below w8.heap.size w8 w1) => PEst_x HC.out (HL8.out.over hb)
              have hsh := set_hears (c := c) hjs HS8.out
              by_cases hkt : (k' : Int) ≤ t
              · rw [if_pos hkt] at hsh
                have A1 : Hid (atZ (hearsL c d8) (j : Int) = inc) := Lib.hid (by rw [at_hears c d8 hj, hsh.1])
                have A2' : Hid (atZ (estL c d8) (j : Int) = inc) := Lib.hid (by rw [at_est c d8 hj, hsh.2])
                clear hsh
                generalize hearsL c d8 = L1 at *
                generalize estL c d8 = L2 at *
                go_wp2_with fail
                refine HH.out.mono ?_
                intro e1 w5 g1
                obtain ⟨B1, kk1, rfl, hr1, hb5⟩ := g1.rd
                have H1 := Lib.hid (at_any B1 L1.length kk1 L1 (j : Int) w5 hr1)
                rw [A1.out] at H1
                clear g1 hr1
                go_wp2_with fail
                refine H1.out.mono ?_
                rintro _ _ ⟨rfl, rfl⟩
                go_wp2_with fail
                refine (HEs.out w5 hb5).mono ?_
                intro e2 w6 g2
                obtain ⟨B2, kk2, rfl, hr2, hb6⟩ := g2.rd
                have hb06 := hb5.trans (hb6.mono hb5.size)
                have H2 := Lib.hid (at_any B2 L2.length kk2 L2 (j : Int) w6 hr2)
                rw [A2'.out] at H2
                clear g2 hr2
                go_wp2_with fail
                refine H2.out.mono ?_
                rintro _ _ ⟨rfl, rfl⟩
                go_wp2
                go_roundw
                case rel => first | exact ⟨k' + 1, d8, by omega, by omega, by go_num, Lib.hid ⟨HL8.out.over hb06, by rw [Nat.add_sub_cancel]; exact HS8.out⟩⟩ | ((repeat apply Exists.intro); refine And.symm ⟨rfl, ?_⟩; exact ⟨k' + 1, d8, by omega, by omega, by go_num, Lib.hid ⟨HL8.out.over hb06, by rw [Nat.add_sub_cancel]; exact HS8.out⟩⟩)
                case measure => simp [intOf] <;> omega
              · rw [if_neg hkt] at hsh
                have hz : ((0 : Int) == inc) = false := by simp; omega
                have A1 : Hid (atZ (hearsL c d8) (j : Int) = 0) := Lib.hid (by rw [at_hears c d8 hj, hsh.1])
                have A2' : Hid (atZ (estL c d8) (j : Int) = 0) := Lib.hid (by rw [at_est c d8 hj, hsh.2])
                clear hsh
                generalize hearsL c d8 = L1 at *
                generalize estL c d8 = L2 at *
                go_wp2_with fail
                refine HH.out.mono ?_
                intro e1 w5 g1
                obtain ⟨B1, kk1, rfl, hr1, hb5⟩ := g1.rd
                have H1 := Lib.hid (at_any B1 L1.length kk1 L1 (j : Int) w5 hr1)
                rw [A1.out] at H1
                clear g1 hr1
                go_wp2_with fail
                refine H1.out.mono ?_
                rintro _ _ ⟨rfl, rfl⟩
                go_wp2_with fail
                refine (HEs.out w5 hb5).mono ?_
                intro e2 w6 g2
                obtain ⟨B2, kk2, rfl, hr2, hb6⟩ := g2.rd
                have hb06 := hb5.trans (hb6.mono hb5.size)
                have H2 := Lib.hid (at_any B2 L2.length kk2 L2 (j : Int) w6 hr2)
                rw [A2'.out] at H2
                clear g2 hr2
                go_wp2_with fail
                refine H2.out.mono ?_
                rintro _ _ ⟨rfl, rfl⟩
                go_wp2
                go_roundw
                case rel => first | exact ⟨k' + 1, d8, by omega, by omega, by go_num, Lib.hid ⟨HL8.out.over hb06, by rw [Nat.add_sub_cancel]; exact HS8.out⟩⟩ | ((repeat apply Exists.intro); refine And.symm ⟨rfl, ?_⟩; exact ⟨k' + 1, d8, by omega, by omega, by go_num, Lib.hid ⟨HL8.out.over hb06, by rw [Nat.add_sub_cancel]; exact HS8.out⟩⟩)
                case measure => simp [intOf] <;> omega
            · have hkI : ¬ (k' : Int) ≤ (nn : Int) := by omega
              obtain rfl : k' = nn + 1 := by omega
              rw [Nat.add_sub_cancel] at HK
              obtain ⟨q0, q1, q2, q3, q4, q5, q6, q7, q8⟩ := HBX.out wr HK.out.1.below
              have HSB := Lib.hid (set_beat HC.out hj hjs HK.out.2 hi1 (show inc ≤ 4611686018427387904 by omega) hl0 (by omega) (by omega))
              go_wp2_with fail
              refine (hears_any c.n c.self c.inc wr hn16 hsf).mono ?_
              rintro _ wz ⟨gz, rfl, hgz, hBz, hbz⟩
              have HPH := Lib.hid (PHeard_f HC.out HK.out.1 (by omega) gz (hearsZ c.n c.self c.inc).length (hearsZ c.n c.self c.inc) (j : Int) inc (last + 1) (by rw [hearsZ_len]; omega) wz hbz hgz hBz)
              rw [HSB.out.1] at HPH
              have HSN := Lib.hid HSB.out.2
              clear HSB hBz hgz q0 q1 q2 q3 q4 q5 q6 q7 q8
              generalize hearD c dt (j : Int) inc (last + 1) (hearsZ c.n c.self c.inc) = d2 at *
              go_wp2_with fail
              refine HPH.out.mono ?_
              rintro _ w4 ⟨rfl, h4, _⟩
              have HL4 := Lib.hid h4
              clear HPH h4
              obtain ⟨q0, q1, q2, q3, q4, q5, q6, q7, q8⟩ := HBX.out w4 HL4.out.below
              by_cases hgt : t < (nn : Int)
              · have hgt' : (nn : Int) > t := hgt
                have HS2 := Lib.hid (HSN.out.1 (by omega))
                have HSI2 := Lib.hid (sinv_next HC.out HSI.out (by omega))
                clear HSN
                go_wp2_with fail
                refine (least_any c.lim (t + c.step) w4).mono ?_
                rintro _ _ ⟨rfl, rfl⟩
                generalize min c.lim (t + c.step) = t2 at *
                have HWQ : Hid (wrongQ c d2 (j : Int) = wg + 1) := Lib.hid (by rw [wrongQ, if_pos (by simp [otherB]; omega), Int.toNat_natCast, HS2.out.wrong])
                have HTQ : Hid (timeoutQ c d2 (j : Int) = t2) := Lib.hid (by rw [timeoutQ, if_pos (by simp [otherB]; omega), Int.toNat_natCast, HS2.out.tmo])
                have A1 : Hid (atZ (hearsL c d2) (j : Int) = inc) := Lib.hid (by
                  obtain ⟨_, _, _, _, _⟩ := HSI2.out
                  rw [at_hears c d2 hj, (set_hears hjs HS2.out).1, if_pos (by omega)])
                have HPW := Lib.hid (PWrong_x HC.out HL4.out (j : Int))
                have HPT := Lib.hid (PTimeout_x HC.out HL4.out (j : Int))
                have HH := Lib.hid (PHears_x HC.out HL4.out)
                rw [HWQ.out] at HPW
                rw [HTQ.out] at HPT
                generalize hearsL c d2 = L1 at *
                go_wp2_with fail
                refine (num_any 0 _ (by omega) (by omega)).mono ?_
                rintro _ _ ⟨rfl, rfl⟩
                go_wp2_with fail
                refine HPW.out.mono ?_
                rintro _ _ ⟨rfl, rfl⟩
                go_wp2_with fail
                refine HPT.out.mono ?_
                rintro _ _ ⟨rfl, rfl⟩
                go_wp2_with fail
                refine HH.out.mono ?_
                intro e1 w5 g1
                obtain ⟨B1, kk1, rfl, hr1, hb5⟩ := g1.rd
                have H1 := Lib.hid (at_any B1 L1.length kk1 L1 (j : Int) w5 hr1)
                rw [A1.out] at H1
                clear g1 hr1
                go_wp2_with fail
                refine H1.out.mono ?_
                rintro _ _ ⟨rfl, rfl⟩
                go_wp2
                go_roundw
                case rel => exact ⟨i' + 1, d2, last + 1, t2, wg + 1, by omega, by go_num, by go_num, by go_num, by go_num, Lib.hid (by have := HLA.out; omega), HSI2, Lib.hid ⟨HL4.out.over hb5, HS2.out⟩⟩
                case measure => simp [intOf] <;> omega
              · have hgt' : ¬ (nn : Int) > t := hgt
                have HS2 := Lib.hid (HSN.out.2 (by omega))
                have HSI2 := HSI
                clear HSN
                have HWQ : Hid (wrongQ c d2 (j : Int) = wg) := Lib.hid (by rw [wrongQ, if_pos (by simp [otherB]; omega), Int.toNat_natCast, HS2.out.wrong])
                have HTQ : Hid (timeoutQ c d2 (j : Int) = t) := Lib.hid (by rw [timeoutQ, if_pos (by simp [otherB]; omega), Int.toNat_natCast, HS2.out.tmo])
                have A1 : Hid (atZ (hearsL c d2) (j : Int) = inc) := Lib.hid (by
                  obtain ⟨_, _, _, _, _⟩ := HSI2.out
                  rw [at_hears c d2 hj, (set_hears hjs HS2.out).1, if_pos (by omega)])
                have HPW := Lib.hid (PWrong_x HC.out HL4.out (j : Int))
                have HPT := Lib.hid (PTimeout_x HC.out HL4.out (j : Int))
                have HH := Lib.hid (PHears_x HC.out HL4.out)
                rw [HWQ.out] at HPW
                rw [HTQ.out] at HPT
                generalize hearsL c d2 = L1 at *
                go_wp2_with fail
                refine (num_any 0 _ (by omega) (by omega)).mono ?_
                rintro _ _ ⟨rfl, rfl⟩
                go_wp2_with fail
                refine HPW.out.mono ?_
                rintro _ _ ⟨rfl, rfl⟩
                go_wp2_with fail
                refine HPT.out.mono ?_
                rintro _ _ ⟨rfl, rfl⟩
                go_wp2_with fail
                refine HH.out.mono ?_
                intro e1 w5 g1
                obtain ⟨B1, kk1, rfl, hr1, hb5⟩ := g1.rd
                have H1 := Lib.hid (at_any B1 L1.length kk1 L1 (j : Int) w5 hr1)
                rw [A1.out] at H1
                clear g1 hr1
                go_wp2_with fail
                refine H1.out.mono ?_
                rintro _ _ ⟨rfl, rfl⟩
                go_wp2
                go_roundw
                case rel => exact ⟨i' + 1, d2, last + 1, t, wg, by omega, by go_num, by go_num, by go_num, by go_num, Lib.hid (by have := HLA.out; omega), HSI2, Lib.hid ⟨HL4.out.over hb5, HS2.out⟩⟩
                case measure => simp [intOf] <;> omega
        · have hI : ¬ (i' : Int) < (n2 : Int) := by omega
          have hw1' : IntKind.i64.wrap (wg * c.step) = wg * c.step := IntWalk.i64_in _ (by omega)
          have hw2' : IntKind.i64.wrap (c.lim - c.base) = c.lim - c.base := IntWalk.i64_in _ (by omega)
          have hw3' : IntKind.i64.wrap (c.lim - c.base + c.step) = c.lim - c.base + c.step := IntWalk.i64_in _ (by omega)
          have HDEC : Hid (decide (wg * c.step < c.lim - c.base + c.step) = true) := Lib.hid (decide_eq_true hse.2.1)
          have HWQ : Hid (wrongQ c dd (j : Int) = wg) := Lib.hid (by rw [wrongQ, if_pos (by simp [otherB]; omega), Int.toNat_natCast, HLS.out.2.wrong])
          have HPW : Hid (∀ W, Below wr.heap.size wr W → Calls Try.prog 21 #[.pointer (some ⟨D, 0, none⟩), .int .i64 (j : Int)] W fun e w' => e = .returned (.int .i64 wg) ∧ w' = W) := Lib.hid fun W hb => by
            have := PWrong_x HC.out (HLS.out.1.over hb) (j : Int)
            rw [HWQ.out] at this
            exact this.mono fun _ _ ⟨h, h2⟩ => ⟨h, h2.symm⟩
          go_upto_region 30 with fail
          go_quiet ((go_at_call 21; exact Calls.quiet_of_same (HPW.out _ (below_drewN (Below.refl _ _) _))))
          have HE : Hid (Below w.heap.size w (wr.drewN nq)) := hbw.trans ((HLS.out.1.over (below_drewN (Below.refl _ _) nq)).below.mono hbw.size)
          clear hw1' hw2' hw3' hse
          go_wp2
          go_ret
          exact ⟨rfl, HE.out⟩
  · have HK := Lib.hid hok
    clear hok
    refine (began_no x0 x1 x2 x3 x4 x5 HK.out hn0 hn1 none 0 0).mono ?_
    rintro _ w2 ⟨rfl, hb2⟩
    obtain ⟨q0, q1, q2, q3, q4, q5, q6, q7, q8⟩ := HBX.out w2 hb2
    have HE : Hid (Below w.heap.size w w2) := hbw.trans (hb2.mono hbw.size)
    clear r0 r1 r2 r3 r4 r5 r6
    go_wp2_with fail
    refine (another_any qq x0 x1 w2 hq0 hq1 hn0 hn1).mono ?_
    rintro _ _ ⟨rfl, rfl⟩
    go_wp2
    go_ret
    exact ⟨rfl, HE.out⟩
end Go.Proofs.Ytfjpmoigpnmeoaa
