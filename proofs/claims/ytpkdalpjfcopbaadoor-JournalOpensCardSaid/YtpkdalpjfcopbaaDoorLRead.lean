/-
  The document's Read.
-/
import Derived.Test.YtpkdalpjfcopbaaDoorLReadA
import Derived.Deep.CutBlock
namespace Go.Proofs.YtpkdalpjfcopbaaDoor
open Go.RowKit
def ReadP (w : World) (bs : List UInt8) (e : Ending) (w' : World) : Prop := ∃ r : RV, e = .returned r.val ∧ RdV w' w.heap.size bs r ∧ Below w.heap.size w w'
theorem ReadP.none_ {w W : World} {R Fb : Nat} {r : RV} {K : List Rk} {bs : List UInt8} (h : RdS w R Fb r K W) (hx : headR bs = none) : Blk (six W R RV.zero) R 82 RV.zero.cells ∧ ReadP w bs (.returned RV.zero.val) (six W R RV.zero) := by
  obtain ⟨h1, hc⟩ := six_blk h.res RV.zero
  have hge := h.ge
  refine ⟨h1, RV.zero, rfl, ?_, h.bw.trans (hc.to_below h.bw.size fun k e => by omega)⟩
  unfold RdV readR
  rw [hx]
def endF (Fb : Nat) (w : World) : Nat := match w.cell? ⟨Fb, 2, none⟩ with
  | some v => (intOf v).toNat
  | none => 0
theorem endF_eq {w : World} {Fb p : Nat} (h : w.cell? ⟨Fb, 2, none⟩ = some (.int .i64 (p : Int))) : endF Fb w = p := by
  unfold endF
  rw [h]
  simp [intOf]
set_option maxRecDepth 100000 in
set_option maxHeartbeats 1600000 in
theorem Read_any {w : World} {n cap : Nat} {A : Option Addr} {bs : List UInt8} (hr : RdB w w.heap.size A n bs) (hn : n ≤ cap) (hc : cap ≤ 9223372036854775807) :
    Calls Tryd.prog 44 #[.slice A n cap] w (ReadP w bs) := by
  obtain ⟨w1, hw1⟩ : ∃ x, x = w.alloc (.cells #[.int .i64 0, .int .i64 0, .int .i64 0, .slice none 0 0, .bool false, .bool false] 82) := ⟨_, rfl⟩
  have hb1 : Below w.heap.size w w1 := by rw [hw1]; exact one_box' _ _
  have hB1 : Blk w1 w.heap.size 82 RV.zero.cells := by rw [hw1]; exact Blk.new _ _ _
  have hz1 : w1.heap.size = w.heap.size + 1 := by rw [hw1]; simp
  obtain ⟨w2, hw2⟩ : ∃ x, x = w1.alloc (.cells #[.int .i64 0, .int .i64 0, .int .i64 0, .slice none 0 0, .bool false, .bool false] 82) := ⟨_, rfl⟩
  have hb2 : Below w1.heap.size w1 w2 := by rw [hw2]; exact one_box' _ _
  have hB2 : Blk w2 w1.heap.size 82 RV.zero.cells := by rw [hw2]; exact Blk.new _ _ _
  obtain ⟨R, hR⟩ : ∃ R, R = w.heap.size := ⟨_, rfl⟩
  obtain ⟨Fb, hF⟩ : ∃ Fb, Fb = w1.heap.size := ⟨_, rfl⟩
  have HS2 : Hid (RdS w R Fb RV.zero [] w2) := Lib.hid ⟨by rw [hR]; exact hB1.over hb2, by rw [hF]; exact hB2, RcOwn.nil, rfl, Below.then hb1 hb2, by omega, by omega⟩
  have HW := Lib.hid (And.intro hw1 hw2)
  have HN := Lib.hid (And.intro hR hF)
  have HZ := Lib.hid hz1
  have hlt : R < Fb := by omega
  have HR := Lib.hid (hr.below (Below.then hb1 hb2))
  have HRB := Lib.hid hr
  have HL := Lib.hid hr.lenB
  have HWR : Hid (w.heap.size = R) := Lib.hid hR.symm
  clear hw1 hb1 hB1 hz1 hw2 hb2 hB2 hR hF hr
  obtain ⟨⟨x0, x1, x2, x3, x4, x5⟩, _⟩ := rv_cells HS2.out.res
  obtain ⟨_, ⟨f0, f1, f2, f3, f4, f5⟩⟩ := rv_cells HS2.out.res
  obtain ⟨⟨y0, y1, y2, y3, y4, y5⟩, ⟨g0, g1, g2, g3, g4, g5⟩⟩ := rv_cells HS2.out.fb
  dsimp only [RV.zero] at x0 x1 x2 x3 x4 x5 y0 y1 y2 y3 y4 y5
  by_cases hsz : 18 ≤ n ∧ n ≤ 65536
  · obtain ⟨h18, h65⟩ := hsz
    have d1 : decide ((n : Int) < 18) = false := decide_eq_false (by omega)
    have d2 : decide (65536 < (n : Int)) = false := decide_eq_false (by omega)
    obtain ⟨G, hG⟩ : ∃ G, G = numB (part bs 2 8) := ⟨_, rfl⟩
    obtain ⟨C, hC⟩ : ∃ C, C = numB (part bs 10 4) := ⟨_, rfl⟩
    have hC4 : C < 4294967296 := by
      have := numB_lt (part bs 10 4)
      rw [part_length (by have := HL.out; omega), ← hC] at this
      omega
    have hVC : valR C = (C : Int) := by unfold valR; rw [if_pos (by omega)]
    have HV1 : Hid (∀ W, RdB W w.heap.size A n bs → Calls Tryd.prog 67 #[.slice A n cap, .int .i64 2, .int .i64 10] W fun e w' => e = .returned (.int .i64 (valR G)) ∧ W = w') := Lib.hid fun W h => by
      rw [hG]
      exact value_any h (by omega) 2 8 (by omega)
    have HV2 : Hid (∀ W, RdB W w.heap.size A n bs → Calls Tryd.prog 67 #[.slice A n cap, .int .i64 10, .int .i64 14] W fun e w' => e = .returned (.int .i64 (C : Int)) ∧ W = w') := Lib.hid fun W h => by
      rw [← hVC, hC]
      exact value_any h (by omega) 10 4 (by omega)
    have HR3 : Hid (∀ i u, RdB (w2.setCell ⟨Fb, i, none⟩ u) w.heap.size A n bs) := Lib.hid fun i u => HR.out.keep fun g hg => ((Chg.refl (fun k => k = Fb) w2).setCell (p := ⟨Fb, i, none⟩) (.inl rfl) u).block g (by have := HS2.out.bw.size; omega) (by have := HWR.out; omega)
    have HGC := Lib.hid (And.intro hG hC)
    have HHR : Hid (headR bs = if n ≤ 65536 ∧ part bs 0 2 = [113, 106] ∧ 1 ≤ G ∧ G ≤ 4611686018427387904 ∧ numB (part bs 14 4) = Crc.crc (part bs 0 14) then some (G, C) else none) := Lib.hid (by
      unfold headR
      rw [HL.out, hG, hC]
      by_cases h : n ≤ 65536 ∧ part bs 0 2 = [113, 106] ∧ 1 ≤ numB (part bs 2 8) ∧ numB (part bs 2 8) ≤ 4611686018427387904 ∧ numB (part bs 14 4) = Crc.crc (part bs 0 14)
      · rw [if_pos h, if_pos ⟨h18, h⟩]
      · rw [if_neg h, if_neg (fun h' => h h'.2)])
    have HHI := Lib.hid (head_iff (l := bs) (by have := HL.out; omega))
    rw [← hG, ← hC] at HHI
    clear hG hC hVC
    by_cases hgen : 1 ≤ G ∧ G ≤ 4611686018427387904
    · have hVG : valR G = (G : Int) := by unfold valR; rw [if_pos hgen.2]
      rw [hVG] at HV1
      have dg : decide ((G : Int) < 1) = false := decide_eq_false (by omega)
      have HG := Lib.hid hgen
      clear hVG hgen
      go_enter Tryd.func44, Tryd.ntmps44
      go_upto_region 1 with fail
      rw [← HW.out.1, HWR.out]
      go_upto_region 2 with fail
      rw [← HW.out.2, ← HN.out.2]
      go_upto_region 5 with (go_at_call 67; refine (HV1.out _ HR.out).mono ?_; rintro _ w3 ⟨rfl, rfl⟩)
      have hS3 := HS2.out.put 0 (.int .i64 (G : Int)) (r' := { RV.zero with gn := (G : Int) }) rfl ⟨rfl, rfl, rfl⟩
      have hr3 := HR3.out 0 (.int .i64 (G : Int))
      clear x0 x1 x2 x3 x4 x5 y0 y1 y2 y3 y4 y5 f0 f1 f2 f3 f4 f5 g0 g1 g2 g3 g4 g5
      generalize w2.setCell ⟨Fb, 0, none⟩ (.int .i64 (G : Int)) = w3 at hS3 hr3 ⊢
      have HS3 := Lib.hid hS3
      have HRD3 := Lib.hid hr3
      clear hS3 hr3
      obtain ⟨⟨y0, y1, y2, y3, y4, y5⟩, ⟨g0, g1, g2, g3, g4, g5⟩⟩ := rv_cells HS3.out.fb
      dsimp only [RV.zero] at y0 y1 y2 y3 y4 y5
      go_upto_region 6 with (go_at_call 67; refine (HV2.out _ HRD3.out).mono ?_; rintro _ w4 ⟨rfl, rfl⟩)
      have hS4 := HS3.out.put 1 (.int .i64 (C : Int)) (r' := { RV.zero with gn := (G : Int), ct := (C : Int) }) rfl ⟨rfl, rfl, rfl⟩
      have hr4 : RdB (w3.setCell ⟨Fb, 1, none⟩ (.int .i64 (C : Int))) w.heap.size A n bs := HRD3.out.keep fun g hg => ((Chg.refl (fun k => k = Fb) w3).setCell (p := ⟨Fb, 1, none⟩) (.inl rfl) (.int .i64 (C : Int))).block g (by have := HS3.out.bw.size; omega) (by have := HWR.out; omega)
      clear y0 y1 y2 y3 y4 y5 g0 g1 g2 g3 g4 g5
      generalize w3.setCell ⟨Fb, 1, none⟩ (.int .i64 (C : Int)) = w4 at hS4 hr4 ⊢
      have HS4 := Lib.hid hS4
      have HRD4 := Lib.hid hr4
      clear hS4 hr4
      obtain ⟨⟨y0, y1, y2, y3, y4, y5⟩, ⟨g0, g1, g2, g3, g4, g5⟩⟩ := rv_cells HS4.out.fb
      dsimp only [RV.zero] at y0 y1 y2 y3 y4 y5
      go_upto_region 9 with (go_at_call 68; refine (Rhead_any G C (by have := HG.out; omega) (by omega)).mono ?_; rintro _ w5 ⟨A5, c5, rfl, ho5, hb5⟩; have H5 := Lib.hid (And.intro ho5 hb5); clear ho5 hb5)
      have hS5 := HS4.out.below H5.out.2
      have hr5 := HRD4.out.below (H5.out.2.mono HS4.out.bw.size)
      have hrt : RdB w5 w.heap.size A 18 (bs.take 18) := hr5.takeB (by omega)
      have hrh : RdB w5 w5.heap.size A5 18 (headB G C) := Rd.of_own H5.out.1
      have k1 := fun d c => conv_rd (P := Tryd.prog) (cap := c) (hrh.dn d) Tryd.underlying22 Tryd.underlying5 Tryd.underlying9
      have k2 := fun d c => conv_rd (P := Tryd.prog) (cap := c) (hrt.dn d) Tryd.underlying22 Tryd.underlying5 Tryd.underlying9
      have h18c : 18 ≤ cap := by omega
      have h18i : (18 : Int) ≤ (cap : Int) := by omega
      have HS5 := Lib.hid (And.intro hS5 hr5)
      clear hS5 hr5 hrt hrh y0 y1 y2 y3 y4 y5 g0 g1 g2 g3 g4 g5
      generalize hhd : headB G C = hd at k1
      generalize htk : bs.take 18 = tk at k2
      have HHT := Lib.hid (And.intro hhd htk)
      clear hhd htk
      by_cases he : hd = tk
      · have hs : (hd == tk) = true := by simpa using he
        have hgood := HHI.out.1 (by rw [HHT.out.1, HHT.out.2]; exact he)
        have hx : headR bs = some (G, C) := by rw [HHR.out, if_pos ⟨h65, hgood.1, HG.out.1, HG.out.2, hgood.2⟩]
        have HX := Lib.hid hx
        clear hgood hx he
        go_quiet (fail)
        have hS6 : RdS w R Fb { RV.zero with gn := (G : Int), ct := (C : Int) } [] (w5.drewN nq) := HS5.out.1.below (below_drewN (Below.refl _ _) nq)
        have hr6 : RdB (w5.drewN nq) w.heap.size A n bs := HS5.out.2.dn nq
        clear k1 k2 hs h18c h18i
        generalize w5.drewN nq = w6 at hS6 hr6 ⊢
        have HS6 := Lib.hid (And.intro hS6 hr6)
        clear hS6 hr6
        obtain ⟨⟨y0, y1, y2, y3, y4, y5⟩, ⟨g0, g1, g2, g3, g4, g5⟩⟩ := rv_cells HS6.out.1.fb
        dsimp only [RV.zero] at y0 y1 y2 y3 y4 y5
        go_upto_block 0 with fail
        have hput := HS6.out.1.put 2 (.int .i64 18) (r' := ⟨(G : Int), (C : Int), 18, none, 0, 0, false, false⟩) rfl ⟨rfl, rfl, rfl⟩
        have hRD : ∀ ms p, framesR bs bs.length 18 = (ms, p) → readR bs = some ⟨G, C, ms, p⟩ := fun ms p h => by
          unfold readR
          rw [HX.out]
          dsimp only
          rw [h]
        have HRD := Lib.hid hRD
        have HS7 : Hid (RdS w R Fb ⟨(G : Int), (C : Int), ((18 : Nat) : Int), none, ([] : List Rk).length, 0, false, false⟩ [] (w6.setCell ⟨Fb, 2, none⟩ (.int .i64 18)) ∧ Going bs (([] : List Rk).map Rk.rc) 18) := Lib.hid ⟨hput, Going.start (by have := HL.out; omega)⟩
        clear hput hRD y0 y1 y2 y3 y4 y5 g0 g1 g2 g3 g4 g5
        clear HS6 HS5 HS4 HRD4 HHT HHI
        generalize w6.setCell ⟨Fb, 2, none⟩ (.int .i64 18) = w7 at HS7 ⊢
        go_cut [5, 6] from 40 to 67 (fun _ _ wc => ∃ (Ks : List Rk) (p : Nat) (Ak : Option Addr) (ck : Nat), Hid (RdS w R Fb ⟨(G : Int), (C : Int), (p : Int), Ak, Ks.length, ck, false, false⟩ Ks wc ∧ readR bs = some ⟨G, C, Ks.map Rk.rc, p⟩))
        case first =>
          go_wp2_with fail
          go_loopw [5, 6] (fun _ _ wr => ∃ (Ks : List Rk) (p : Nat) (Ak : Option Addr) (ck : Nat), Hid (RdS w R Fb ⟨(G : Int), (C : Int), (p : Int), Ak, Ks.length, ck, false, false⟩ Ks wr ∧ Going bs (Ks.map Rk.rc) p)) (fun _ _ wr => n - endF Fb wr)
          case atStart => exact ⟨[], 18, none, 0, HS7⟩
          case round =>
            obtain ⟨Ks, p, Ak, ck, HZ⟩ := hrel
            obtain ⟨⟨y0, y1, y2, y3, y4, y5⟩, ⟨g0, g1, g2, g3, g4, g5⟩⟩ := rv_cells HZ.out.1.fb
            dsimp only at y0 y1 y2 y3 y4 y5
            have hpn := HZ.out.2.hi
            have hpl := HZ.out.2.lo
            rw [HL.out] at hpn
            have HEN := Lib.hid (endF_eq y2)
            have HRw := Lib.hid ((HRB.out.below HZ.out.1.bw).more HZ.out.1.bw.size)
            by_cases hlt : p < n
            · have hli : (p : Int) < (n : Int) := by omega
              cases hh : nextR bs p with
              | none =>
                have HX2 := Lib.hid hh
                clear hh
                go_upto_region 14 with (go_at_call 69; refine (Rnext_any HRw.out (by omega) (by omega) (by omega) (by omega)).mono ?_; rintro _ w3 ⟨hb3, hm⟩; rw [HX2.out] at hm; obtain rfl := hm; have HB3 := Lib.hid hb3; clear hb3)
                go_wp2_with fail
                go_meet
                exact ⟨Ks, p, Ak, ck, Lib.hid ⟨HZ.out.1.below (Below.then HB3.out (one_box' _ _)), HRD.out _ _ (HZ.out.2.stop (by have := HL.out; omega) HX2.out)⟩⟩
              | some r =>
                have HX2 := Lib.hid hh
                clear hh
                go_upto_region 15 with (go_at_call 69; refine (Rnext_any HRw.out (by omega) (by omega) (by omega) (by omega)).mono ?_; rintro _ w3 ⟨hb3, hm⟩; rw [HX2.out] at hm; obtain ⟨Ab, cb, rfl, ho3⟩ := hm; have HB3 := Lib.hid hb3; have HO3 := Lib.hid ho3; clear hb3 ho3)
                obtain ⟨w4, hw4⟩ : ∃ x, x = w3.alloc (.cells #[.int .i64 r.kind, .slice Ab r.body.length cb] 34) := ⟨_, rfl⟩
                rw [← hw4]
                have hb4 : Below w3.heap.size w3 w4 := by rw [hw4]; exact one_box' _ _
                have hR4 : Blk w4 w3.heap.size 34 #[.int .i64 r.kind, .slice Ab r.body.length cb] := by rw [hw4]; exact Blk.new _ _ _
                have hS4 := HZ.out.1.below (Below.then HB3.out hb4)
                have hov : w4.ownsRow w.heap.size 5 1 (.slice Ab r.body.length cb) r.body.length (bvs r.body) := own_base (own_chg HO3.out (Chg.of_below hb4 (fun _ => False)) fun _ _ e => e) HZ.out.1.bw.size
                have hnew : ∀ (k : Nat) (x : Rk) (q : Nat), Ks[k]? = some x → x.v.ownBlock = some q → (Value.slice Ab r.body.length cb).ownBlock = some q → False := fun k x q hk h1 h2 => by
                  have e1 := (own_block_lt (HZ.out.1.own.bod k x hk) h1).1
                  have e2 := (own_block_lt HO3.out h2).2.1
                  omega
                have hlast : ∀ g, some g = (Value.slice Ak Ks.length ck).ownBlock → g < wr.heap.size := fun g e => (own_block_lt HZ.out.1.own.own e.symm).1
                have h3s : wr.heap.size ≤ w3.heap.size := HB3.out.size
                have hFl : Fb < wr.heap.size := HZ.out.1.fb.lt
                have hKb : Ks.length ≤ 8192 := by
                  have h1 := HZ.out.2.bd (by have := HL.out; omega)
                  have h2 := bodies_le (Ks.map Rk.rc)
                  rw [List.length_map] at h2
                  omega
                have hgo : Going bs ((Ks ++ [(⟨r, .slice Ab r.body.length cb⟩ : Rk)]).map Rk.rc) (p + 8 + r.body.length) := by
                  rw [List.map_append]
                  exact HZ.out.2.step (by have := HL.out; omega) HX2.out
                have hqn := hgo.hi
                rw [HL.out] at hqn
                have HGO := Lib.hid hgo
                have HNW := Lib.hid hnew
                have HS4 := Lib.hid hS4
                have HOV := Lib.hid hov
                have HRB4 := Lib.hid hR4
                have HLT := Lib.hid hlast
                clear y0 y1 y2 y3 y4 y5 g0 g1 g2 g3 g4 g5 hw4 hb4
                obtain ⟨⟨y0, y1, y2, y3, y4, y5⟩, ⟨g0, g1, g2, g3, g4, g5⟩⟩ := rv_cells HS4.out.fb
                dsimp only at y0 y1 y2 y3 y4 y5
                have q0 : w4.cell? ⟨w3.heap.size, 0, none⟩ = some (.int .i64 r.kind) := hR4.cell 0
                have q1 : w4.cell? ⟨w3.heap.size, 1, none⟩ = some (.slice Ab r.body.length cb) := hR4.cell 1
                obtain ⟨i1, hi1, hr0, hr1, hr2⟩ := info_parts info_rec
                have hown : w4.ownsRow w.heap.size 34 2 (.slice Ak Ks.length ck) Ks.length (rowsK Ks) := HS4.out.own.own
                have HOW := Lib.hid hown
                clear hgo hnew hS4 hov hR4 hlast hown
                go_upto_region 16 with (
                  at_builtin
                  refine appN w4 (by rfl) _ _ 25 (by rfl) w.heap.size 34 i1 _ 2 32 u_recs hi1 hr0 hr1 hr2 rfl (by omega) _ Ks.length _ (by rfl) HOW.out #[.int .i64 r.kind, .slice Ab r.body.length cb] rfl (by rfl) (by simp; exact ⟨rfl, rfl⟩) (by simp only [maxLen]; omega) (by omega) HS4.out.bw.size ?_
                  intro v5 w5 how5 _ hg5
                  obtain ⟨A5', c5', rfl, _, _⟩ := own_shape how5
                  have hfb5 : Blk w5 Fb 82 _ := HS4.out.fb.chg (Chg.of_grown hg5) (fun e => absurd ((own_isT HOW.out e.symm).eq_ HS4.out.fb.isT) (by decide))
                  have z3 : w5.cell? ⟨Fb, 3, none⟩ = some (.slice Ak Ks.length ck) := hfb5.cell 3
                  have z3f := hfb5.frozen 3)
                have hadd := HS4.out.add (x := ⟨r, .slice Ab r.body.length cb⟩) how5 hg5 HOV.out HNW.out
                dsimp only at hadd
                have hR5 := (HRB4.out.chg (Chg.of_grown hg5) (fun e => by have := HLT.out _ e; omega)).chg ((Chg.refl (fun k => k = Fb) w5).setCell (p := ⟨Fb, 3, none⟩) (.inl rfl) (.slice A5' (Ks.length + 1) c5')) (by omega)
                clear y0 y1 y2 y3 y4 y5 g0 g1 g2 g3 g4 g5 q0 q1 z3 z3f hfb5 how5 hg5
                generalize w5.setCell ⟨Fb, 3, none⟩ (.slice A5' (Ks.length + 1) c5') = w6' at hadd hR5 ⊢
                have q1 : w6'.cell? ⟨w3.heap.size, 1, none⟩ = some (.slice Ab r.body.length cb) := hR5.cell 1
                have HAD := Lib.hid hadd
                clear hadd hR5
                obtain ⟨⟨y0, y1, y2, y3, y4, y5⟩, ⟨g0, g1, g2, g3, g4, g5⟩⟩ := rv_cells HAD.out.fb
                dsimp only at y0 y1 y2 y3 y4 y5
                go_wp2_with fail
                have e8 : (p : Int) + 8 + (r.body.length : Int) = ((p + 8 + r.body.length : Nat) : Int) := by omega
                have hput := HAD.out.put 2 (.int .i64 (p + 8 + r.body.length : Nat)) (r' := ⟨(G : Int), (C : Int), ((p + 8 + r.body.length : Nat) : Int), A5', (Ks ++ [(⟨r, .slice Ab r.body.length cb⟩ : Rk)]).length, c5', false, false⟩) (by simp [RV.cells]) ⟨rfl, by simp, rfl⟩
                rw [e8]
                go_roundw
                case rel => exact ⟨_, p + 8 + r.body.length, A5', c5', Lib.hid ⟨hput, HGO.out⟩⟩
                case measure =>
                  have e1 := endF_eq (hput.fb.cell 2)
                  have e2 := HEN.out
                  rw [e1, e2]
                  omega
            · have hli : ¬ (p : Int) < (n : Int) := by omega
              have dli : decide ((p : Int) < (n : Int)) = false := by simpa using hli
              go_wp2_with fail
              go_meet
              exact ⟨Ks, p, Ak, ck, Lib.hid ⟨HZ.out.1, HRD.out _ _ (HZ.out.2.done (by have := HL.out; omega))⟩⟩
        obtain ⟨Ks, p, Ak, ck, HZ⟩ := hcut
        obtain ⟨⟨y0, y1, y2, y3, y4, y5⟩, ⟨g0, g1, g2, g3, g4, g5⟩⟩ := rv_cells HZ.out.1.fb
        obtain ⟨⟨x0, x1, x2, x3, x4, x5⟩, ⟨f0, f1, f2, f3, f4, f5⟩⟩ := rv_cells HZ.out.1.res
        dsimp only at y0 y1 y2 y3 y4 y5
        dsimp only [RV.zero] at x0 x1 x2 x3 x4 x5
        have hne : Fb ≠ R := by omega
        go_wp2
        have h1 := (HZ.out.1.put 4 (.bool (decide (C ≤ Ks.length))) (r' := ⟨(G : Int), (C : Int), (p : Int), Ak, Ks.length, ck, decide (C ≤ Ks.length), false⟩) rfl ⟨rfl, rfl, rfl⟩).put 5 (.bool ((p : Int) == (n : Int))) (r' := ⟨(G : Int), (C : Int), (p : Int), Ak, Ks.length, ck, decide (C ≤ Ks.length), (p : Int) == (n : Int)⟩) rfl ⟨rfl, rfl, rfl⟩
        obtain ⟨h2, hc2⟩ := six_blk h1.res ⟨(G : Int), (C : Int), (p : Int), Ak, Ks.length, ck, decide (C ≤ Ks.length), (p : Int) == (n : Int)⟩
        unfold six at h2 hc2
        refine bodyPost_ret (readResults R _ _ ⟨(G : Int), (C : Int), (p : Int), Ak, Ks.length, ck, decide (C ≤ Ks.length), (p : Int) == (n : Int)⟩ rfl h2) rfl ⟨_, rfl, ?_, h1.bw.trans (hc2.to_below h1.bw.size fun k e => by have := HWR.out; omega)⟩
        unfold RdV
        rw [HZ.out.2]
        have e1 : (Fi.sound ⟨G, C, Ks.map Rk.rc, p⟩) = decide (C ≤ Ks.length) := by simp [Fi.sound]
        have e2 : ((p : Int) == (n : Int)) = decide (p = bs.length) := by
          rw [HL.out, Bool.eq_iff_iff]
          simp only [decide_eq_true_eq, beq_iff_eq]
          omega
        refine ⟨rfl, rfl, rfl, e1.symm, e2, Ks, rfl, rfl, h1.own.chgT hc2 fun k _ ht e => ?_⟩
        subst e
        exact ht.elim (fun h => absurd (h.eq_ h1.res.isT) (by decide)) (fun h => absurd (h.eq_ h1.res.isT) (by decide))
      · have hs : (hd == tk) = false := by simpa using he
        have hx : headR bs = none := by rw [HHR.out, if_neg (fun h => he (by rw [← HHT.out.1, ← HHT.out.2]; exact HHI.out.2 ⟨h.2.1, h.2.2.2.2⟩))]
        have HX := Lib.hid hx
        clear hx he
        go_quiet (fail)
        have hS6 : RdS w R Fb { RV.zero with gn := (G : Int), ct := (C : Int) } [] (w5.drewN nq) := HS5.out.1.below (below_drewN (Below.refl _ _) nq)
        clear k1 k2 hs h18c h18i
        generalize w5.drewN nq = w6 at hS6 ⊢
        have HS6 := Lib.hid hS6
        clear hS6
        obtain ⟨⟨x0, x1, x2, x3, x4, x5⟩, ⟨f0, f1, f2, f3, f4, f5⟩⟩ := rv_cells HS6.out.res
        dsimp only [RV.zero] at x0 x1 x2 x3 x4 x5
        have hfin := ReadP.none_ HS6.out HX.out
        unfold six RV.zero at hfin
        have HFI := Lib.hid hfin
        clear hfin
        go_wp2
        exact bodyPost_ret (readResults R _ _ RV.zero rfl HFI.out.1) rfl HFI.out.2
    · have hx : headR bs = none := by rw [HHR.out, if_neg (fun h => hgen ⟨h.2.2.1, h.2.2.2.1⟩)]
      have dg : decide (valR G < 1) = true := decide_eq_true (by unfold valR; split <;> omega)
      have HX := Lib.hid hx
      obtain ⟨V, hV⟩ : ∃ V, V = valR G := ⟨_, rfl⟩
      rw [← hV] at HV1 dg
      clear hgen hx hV
      go_enter Tryd.func44, Tryd.ntmps44
      go_upto_region 1 with fail
      rw [← HW.out.1, HWR.out]
      go_upto_region 2 with fail
      rw [← HW.out.2, ← HN.out.2]
      go_upto_region 5 with (go_at_call 67; refine (HV1.out _ HR.out).mono ?_; rintro _ w3 ⟨rfl, rfl⟩)
      have hS3 := HS2.out.put 0 (.int .i64 V) (r' := { RV.zero with gn := V }) rfl ⟨rfl, rfl, rfl⟩
      have hr3 := HR3.out 0 (.int .i64 V)
      clear x0 x1 x2 x3 x4 x5 y0 y1 y2 y3 y4 y5 f0 f1 f2 f3 f4 f5 g0 g1 g2 g3 g4 g5
      generalize w2.setCell ⟨Fb, 0, none⟩ (.int .i64 V) = w3 at hS3 hr3 ⊢
      have HS3 := Lib.hid hS3
      have HRD3 := Lib.hid hr3
      clear hS3 hr3
      obtain ⟨⟨y0, y1, y2, y3, y4, y5⟩, ⟨g0, g1, g2, g3, g4, g5⟩⟩ := rv_cells HS3.out.fb
      dsimp only [RV.zero] at y0 y1 y2 y3 y4 y5
      go_upto_region 6 with (go_at_call 67; refine (HV2.out _ HRD3.out).mono ?_; rintro _ w4 ⟨rfl, rfl⟩)
      have hS4 := HS3.out.put 1 (.int .i64 (C : Int)) (r' := { RV.zero with gn := V, ct := (C : Int) }) rfl ⟨rfl, rfl, rfl⟩
      clear y0 y1 y2 y3 y4 y5 g0 g1 g2 g3 g4 g5
      generalize w3.setCell ⟨Fb, 1, none⟩ (.int .i64 (C : Int)) = w4 at hS4 ⊢
      have HS4 := Lib.hid hS4
      clear hS4
      obtain ⟨⟨y0, y1, y2, y3, y4, y5⟩, _⟩ := rv_cells HS4.out.fb
      obtain ⟨⟨x0, x1, x2, x3, x4, x5⟩, ⟨f0, f1, f2, f3, f4, f5⟩⟩ := rv_cells HS4.out.res
      dsimp only [RV.zero] at x0 x1 x2 x3 x4 x5 y0 y1 y2 y3 y4 y5
      have hfin := ReadP.none_ HS4.out HX.out
      unfold six RV.zero at hfin
      have HFI := Lib.hid hfin
      clear hfin
      go_wp2
      exact bodyPost_ret (readResults R _ _ RV.zero rfl HFI.out.1) rfl HFI.out.2
  · have hx : headR bs = none := by
      unfold headR
      rw [if_neg (by have := HL.out; omega)]
    have HX := Lib.hid hx
    have hfin := ReadP.none_ HS2.out hx
    unfold six RV.zero at hfin
    have HFI := Lib.hid hfin
    clear hx hfin
    by_cases h18 : n < 18
    · have d1 : decide ((n : Int) < 18) = true := decide_eq_true (by omega)
      clear hsz
      go_enter Tryd.func44, Tryd.ntmps44
      go_upto_region 1 with fail
      rw [← HW.out.1, HWR.out]
      go_upto_region 2 with fail
      rw [← HW.out.2, ← HN.out.2]
      go_wp2
      exact bodyPost_ret (readResults R _ _ RV.zero rfl HFI.out.1) rfl HFI.out.2
    · have d1 : decide ((n : Int) < 18) = false := decide_eq_false (by omega)
      have d2 : decide (65536 < (n : Int)) = true := decide_eq_true (by omega)
      clear hsz
      go_enter Tryd.func44, Tryd.ntmps44
      go_upto_region 1 with fail
      rw [← HW.out.1, HWR.out]
      go_upto_region 2 with fail
      rw [← HW.out.2, ← HN.out.2]
      go_wp2
      exact bodyPost_ret (readResults R _ _ RV.zero rfl HFI.out.1) rfl HFI.out.2
end Go.Proofs.YtpkdalpjfcopbaaDoor
