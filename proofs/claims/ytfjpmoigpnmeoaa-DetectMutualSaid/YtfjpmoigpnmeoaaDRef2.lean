/-
  The document's detector: Of, other, Left, fits.
-/
import Derived.Test.YtfjpmoigpnmeoaaDRef
namespace Go.Proofs.Ytfjpmoigpnmeoaa
open Go.RowKit
variable {w : World} {F : Nat → Prop} {c : Cfg} {K : Nat} {l : List Ev} {v : Value}

def GivesPeer (w : World) (s : Pr × Bool) (e : Ending) (w' : World) : Prop := e = .returned (.agg (peerC s)) ∧ Below w.heap.size w w'
theorem refOf_take {l : List Ev} {k : Nat} {x : Ev} (h : l[k]? = some x) (q : Nat) : refOf c q (l.take (k + 1)) = refStep c q (refOf c q (l.take k)) x := by
  rw [List.take_add_one, h]; exact refOf_snoc c q _ x
theorem refOf_ok {c : Cfg} (hc : c.Ok) {l : List Ev} (hl : ∀ x ∈ l, x.Ok) (q k : Nat) : (refOf c q (l.take k)).1.Ok c l.length := by
  rw [refOf_eq]
  exact ((dOf_ok hc (l := l.take k) (fun x hx => hl x (List.mem_of_mem_take hx))).p q).mono (by rw [List.length_take]; omega)
set_option maxRecDepth 100000 in
set_option maxHeartbeats 6400000 in
theorem Of_any (hc : c.Ok) (h : RD w F c K l v) (hF : ∀ k, F k → k < w.heap.size) (hl : ∀ x ∈ l, x.Ok) (hn : l.length ≤ 140737488355328) (q : Nat) :
    Calls Try.prog 63 #[.pointer (some ⟨K, 0, none⟩), .int .i64 (q : Int)] w (GivesPeer w (refOf c q l)) := by
  obtain ⟨A, cap, rfl, hcp, hcm⟩ := own_shape h.row
  have hcs : c.step ≤ 64 ∧ 1 ≤ c.step ∧ c.lim ≤ 64 ∧ 1 ≤ c.lim := by obtain ⟨_, _, _, _, _, h6, h7, _, _, h10, h11⟩ := hc; exact ⟨h11, h10, h7, h6⟩
  obtain ⟨hs64, hs1, hl64, hl1⟩ := hcs
  have HOK := Lib.hid (fun k => refOf_ok hc hl q k)
  have HEV := Lib.hid hl
  have HD := Lib.hid h
  have HF := Lib.hid hF
  have hb0 := one_box' w (.cells #[.int .i64 0, .int .i64 0, .int .i64 0, .int .i64 0, .int .i64 0, .bool false, .bool false, .bool false] 116)
  have hR := Blk.new w 116 #[.int .i64 0, .int .i64 0, .int .i64 0, .int .i64 0, .int .i64 0, .bool false, .bool false, .bool false]
  have hz0 : (w.alloc (.cells #[.int .i64 0, .int .i64 0, .int .i64 0, .int .i64 0, .int .i64 0, .bool false, .bool false, .bool false] 116)).heap.size = w.heap.size + 1 := by simp
  have hD0 := h.below hF hb0
  obtain ⟨w0, hw0⟩ : ∃ w0, w0 = w.alloc (.cells #[.int .i64 0, .int .i64 0, .int .i64 0, .int .i64 0, .int .i64 0, .bool false, .bool false, .bool false] 116) := ⟨_, rfl⟩
  rw [← hw0] at hb0 hR hz0 hD0
  have HW := Lib.hid hw0
  have hP := Blk.new w0 116 #[.int .i64 0, .int .i64 0, .int .i64 0, .int .i64 c.base, .int .i64 0, .bool false, .bool false, .bool false]
  have hb1 := one_box' w0 (.cells #[.int .i64 0, .int .i64 0, .int .i64 0, .int .i64 c.base, .int .i64 0, .bool false, .bool false, .bool false] 116)
  have hR1 := hR.over hb1
  rw [hz0] at hP
  obtain ⟨w1, hw1⟩ : ∃ w1, w1 = w0.alloc (.cells #[.int .i64 0, .int .i64 0, .int .i64 0, .int .i64 c.base, .int .i64 0, .bool false, .bool false, .bool false] 116) := ⟨_, rfl⟩
  rw [← hw1] at hP hb1 hR1
  have HW1 := Lib.hid hw1
  have hbw : Below w.heap.size w w1 := hb0.trans (hb1.mono (by omega))
  have HB : Hid (Blk w1 (w.heap.size + 1) 116 (peerC (refOf c q (l.take 0))) ∧ Blk w1 w.heap.size 116 #[.int .i64 0, .int .i64 0, .int .i64 0, .int .i64 0, .int .i64 0, .bool false, .bool false, .bool false]) := ⟨hP, hR1⟩
  have c3 : w0.cell? ⟨K, 3, none⟩ = some (.int .i64 c.base) := hD0.cell.2.2.2.1
  clear hw0 hw1 hP hR hR1 hb0 hb1 hD0 h hF hl
  have HT := Lib.hid (fun k x (hk : l[k]? = some x) => refOf_take (c := c) hk q)
  have HLN : Hid (l.take l.length = l) := Lib.hid (List.take_length ..)
  generalize hLN : l.length = n at *
  have HLL := Lib.hid hLN
  clear hLN
  obtain ⟨PB, hPB⟩ : ∃ PB, PB = w.heap.size + 1 := ⟨_, rfl⟩
  go_enter Try.func63, Try.ntmps63
  go_upto_region 1 with fail
  rw [← HW.out]
  go_upto_region 2 with fail
  rw [← HW1.out]
  rw [← hPB] at HB ⊢
  have hPR : PB ≠ w.heap.size := by omega
  have hPs : w.heap.size ≤ PB := by omega
  clear hPB HW HW1 c3
  go_wp2_with fail
  go_loopw [6] (fun i wr => ∃ k : Nat, k ≤ n ∧ i = .int .i64 (k : Int) ∧ Hid (Blk wr PB 116 (peerC (refOf c q (l.take k))) ∧ Blk wr w.heap.size 116 #[.int .i64 0, .int .i64 0, .int .i64 0, .int .i64 0, .int .i64 0, .bool false, .bool false, .bool false]) ∧ Below w.heap.size w wr) (fun i _ => n - (intOf i).toNat)
  case atStart => exact ⟨0, by omega, rfl, HB, hbw⟩
  case round =>
    clear HB hbw
    obtain ⟨k, hk, rfl, HB, hb⟩ := hrel
    have hDr := HD.out.below HF.out hb
    obtain ⟨c0, c1, c2, c3, c4, c5, c6⟩ := hDr.cell
    by_cases hlt : k < n
    · have hI : (k : Int) < (n : Int) := by omega
      have hsz := hb.size
      obtain ⟨g, cap', cur, hv, _⟩ := own_parts hDr.row (by rw [HLL.out]; omega)
      simp only [Value.slice.injEq] at hv
      obtain ⟨rfl, _, rfl⟩ := hv
      obtain ⟨x, hx⟩ : ∃ x, l[k]? = some x := ⟨_, List.getElem?_eq_getElem (by rw [HLL.out]; exact hlt)⟩
      obtain ⟨e0, e1, e2, e3, e4⟩ := hDr.ev hx
      have HS := Lib.hid (HT.out k x hx)
      have hsok := HOK.out k
      have ha0 := hsok.a0
      have ha1 := hsok.a1
      have HSO := Lib.hid hsok
      have hbx := one_box' wr (.cells (evC x).toArray 113)
      have hXB := Blk.new wr 113 (evC x).toArray
      have HBx : Hid (Blk (wr.alloc (.cells (evC x).toArray 113)) PB 116 (peerC (refOf c q (l.take k))) ∧ Blk (wr.alloc (.cells (evC x).toArray 113)) w.heap.size 116 #[.int .i64 0, .int .i64 0, .int .i64 0, .int .i64 0, .int .i64 0, .bool false, .bool false, .bool false]) := ⟨HB.out.1.over hbx, HB.out.2.over hbx⟩
      have hbw2 : Below w.heap.size w (wr.alloc (.cells (evC x).toArray 113)) := hb.trans (hbx.mono hsz)
      obtain ⟨wx, hwx⟩ : ∃ wx, wx = wr.alloc (.cells (evC x).toArray 113) := ⟨_, rfl⟩
      rw [← hwx] at hXB HBx hbw2
      have HWX : Hid (wx = wr.alloc (.cells #[.int .i64 x.kind, .int .i64 x.q, .int .i64 x.inc, .int .i64 x.tick, .bool x.mutl] 113)) := hwx
      have x0 : wx.cell? ⟨wr.heap.size, 0, none⟩ = some (.int .i64 x.kind) := hXB.cell 0
      have x1 : wx.cell? ⟨wr.heap.size, 1, none⟩ = some (.int .i64 x.q) := hXB.cell 1
      have x2 : wx.cell? ⟨wr.heap.size, 2, none⟩ = some (.int .i64 x.inc) := hXB.cell 2
      have x3 : wx.cell? ⟨wr.heap.size, 3, none⟩ = some (.int .i64 x.tick) := hXB.cell 3
      have x4 : wx.cell? ⟨wr.heap.size, 4, none⟩ = some (.bool x.mutl) := hXB.cell 4
      generalize refOf c q (l.take k) = s at *
      generalize hs' : refOf c q (l.take (k + 1)) = s' at *
      have HS' := Lib.hid hs'
      clear hs'
      obtain ⟨p, lf⟩ := s
      simp only at ha0 ha1
      have g2 : wx.cell? ⟨PB, 2, none⟩ = some (.int .i64 p.age) := HBx.out.1.cell 2
      have g3 : wx.cell? ⟨PB, 3, none⟩ = some (.int .i64 p.tmo) := HBx.out.1.cell 3
      have g5 : wx.cell? ⟨PB, 5, none⟩ = some (.bool p.heard) := HBx.out.1.cell 5
      have g7 : wx.cell? ⟨PB, 7, none⟩ = some (.bool lf) := HBx.out.1.cell 7
      have f2 := HBx.out.1.frozen 2
      have f5 := HBx.out.1.frozen 5
      have f7 := HBx.out.1.frozen 7
      have hDx := HD.out.below HF.out hbw2
      clear hwx hXB hbx hDr hx hsok
      go_upto_region 6 with fail
      rw [← HWX.out]
      clear e0 e1 e2 e3 e4 c0 c1 c2 c3 c4 c5 c6
      obtain ⟨c0, c1, c2, c3, c4, c5, c6⟩ := hDx.cell
      clear hDx
      by_cases h3 : x.kind = 3
      · have b3 : (x.kind == 3) = true := by simpa using h3
        have HN : Hid ((Blk ((wx.setCell ⟨PB, 7, none⟩ (.bool true)).setCell ⟨PB, 5, none⟩ (.bool false)) PB 116 (peerC s') ∧ Blk ((wx.setCell ⟨PB, 7, none⟩ (.bool true)).setCell ⟨PB, 5, none⟩ (.bool false)) w.heap.size 116 #[.int .i64 0, .int .i64 0, .int .i64 0, .int .i64 0, .int .i64 0, .bool false, .bool false, .bool false]) ∧ Below w.heap.size w ((wx.setCell ⟨PB, 7, none⟩ (.bool true)).setCell ⟨PB, 5, none⟩ (.bool false))) := by
          refine Lib.hid ⟨⟨Blk.eq_ ((HBx.out.1.set_ 7 _).set_ 5 _) ?_, ((HBx.out.2.far (p := ⟨PB, 7, none⟩) hPR.symm _).far (p := ⟨PB, 5, none⟩) hPR.symm _)⟩, (hbw2.setCell hPs _).setCell hPs _⟩
          rw [HS.out, refStep, if_pos h3]; rfl
        clear h3
        go_wp2
        go_roundw
        case rel => exact ⟨k + 1, by omega, by go_num, by rw [HS'.out]; exact HN.out.1, HN.out.2⟩
        case measure => simp [intOf] <;> omega
      have b3 : (x.kind == 3) = false := by simpa using h3
      have HSN : Hid (¬ (x.kind = 1 ∧ p.heard = true) → ¬ (x.kind = 2 ∧ x.q = (q : Int)) → s' = (p, lf)) := Lib.hid fun h1 h2 => by rw [HS.out, refStep, if_neg h3, if_neg h1, if_neg h2]
      by_cases h1 : x.kind = 1
      · have b1 : (x.kind == 1) = true := by simpa using h1
        have b2 : (x.kind == 2) = false := by simp; omega
        cases hh : p.heard with
        | false =>
          have HN : Hid (s' = (p, lf)) := Lib.hid (HSN.out (by simp [hh]) (by omega))
          rw [hh] at g5
          clear h1 h3 hh
          go_wp2
          go_roundw
          case rel => exact ⟨k + 1, by omega, by go_num, by rw [HS'.out, HN.out]; exact HBx, hbw2⟩
          case measure => simp [intOf] <;> omega
        | true =>
          have HN : Hid ((Blk ((wx.setCell ⟨PB, 2, none⟩ (.int .i64 (p.age + 1))).setCell ⟨PB, 5, none⟩ (.bool (decide (p.age + 1 ≤ p.tmo)))).drew PB 116 (peerC s') ∧ Blk ((wx.setCell ⟨PB, 2, none⟩ (.int .i64 (p.age + 1))).setCell ⟨PB, 5, none⟩ (.bool (decide (p.age + 1 ≤ p.tmo)))).drew w.heap.size 116 #[.int .i64 0, .int .i64 0, .int .i64 0, .int .i64 0, .int .i64 0, .bool false, .bool false, .bool false]) ∧ Below w.heap.size w ((wx.setCell ⟨PB, 2, none⟩ (.int .i64 (p.age + 1))).setCell ⟨PB, 5, none⟩ (.bool (decide (p.age + 1 ≤ p.tmo)))).drew) := by
            refine Lib.hid ⟨⟨Blk.eq_ ((HBx.out.1.set_ 2 _).set_ 5 _).drew ?_, ((HBx.out.2.far (p := ⟨PB, 2, none⟩) hPR.symm _).far (p := ⟨PB, 5, none⟩) hPR.symm _).drew⟩, below_drewN ((hbw2.setCell hPs _).setCell hPs _) 1⟩
            rw [HS.out, refStep, if_neg h3, if_pos ⟨h1, hh⟩]; rfl
          rw [hh] at g5
          clear h1 h3 hh
          go_upto_region 11 with fail
          refine region_tail 12 (by kernel_rfl) (by kernel_rfl) ?_
          simp only [List.take_succ_cons, List.take_zero, List.drop_succ_cons, List.drop_zero]
          repeat still_step
          refine wpStill_nil ?_
          go_wp2
          go_roundw
          case rel => exact ⟨k + 1, by omega, by go_num, by rw [HS'.out]; exact HN.out.1, HN.out.2⟩
          case measure => simp [intOf] <;> omega
      have b1 : (x.kind == 1) = false := by simpa using h1
      by_cases h2 : x.kind = 2
      · have b2 : (x.kind == 2) = true := by simpa using h2
        by_cases hq : x.q = (q : Int)
        · have b4 : (x.q == (q : Int)) = true := by simpa using hq
          have HN : Hid (s' = (beatP c lf p x.inc x.tick x.mutl, lf)) := Lib.hid (by rw [HS.out, refStep, if_neg h3, if_neg (by omega), if_pos ⟨h2, hq⟩])
          clear h1 h2 h3 hq
          have HBT := Lib.hid (beat_any c PB (p, lf) x.kind x.q x.inc x.tick x.mutl wx.drew HBx.out.1.drew hs64 hs1 hl64 n HSO.out (by omega))
          go_upto_region 13 with fail
          refine region_tail 10 (by kernel_rfl) (by kernel_rfl) ?_
          simp only [List.take_succ_cons, List.take_zero, List.drop_succ_cons, List.drop_zero]
          repeat still_step
          refine wpStill_nil ?_
          go_wp2_with fail
          refine HBT.out.mono ?_
          rintro _ w3 ⟨rfl, hp3, hc3⟩
          have HN2 : Hid ((Blk w3 PB 116 (peerC s') ∧ Blk w3 w.heap.size 116 #[.int .i64 0, .int .i64 0, .int .i64 0, .int .i64 0, .int .i64 0, .bool false, .bool false, .bool false]) ∧ Below w.heap.size w w3) :=
            ⟨⟨by rw [HN.out]; exact hp3, HBx.out.2.drew.chg hc3 hPR.symm⟩, (below_drewN hbw2 1).trans (hc3.to_below (by have := hbw2.size; exact this) (fun _ e => by omega))⟩
          clear hp3 hc3
          go_wp2
          go_roundw
          case rel => exact ⟨k + 1, by omega, by go_num, by rw [HS'.out]; exact HN2.out.1, HN2.out.2⟩
          case measure => simp [intOf] <;> omega
        · have b4 : (x.q == (q : Int)) = false := by simpa using hq
          have HN : Hid (s' = (p, lf)) := Lib.hid (HSN.out (by omega) (by omega))
          clear h1 h2 h3 hq
          go_wp2
          go_roundw
          case rel => exact ⟨k + 1, by omega, by go_num, by rw [HS'.out, HN.out]; exact HBx, hbw2⟩
          case measure => simp [intOf] <;> omega
      · have b2 : (x.kind == 2) = false := by simpa using h2
        have HN : Hid (s' = (p, lf)) := Lib.hid (HSN.out (by omega) (by omega))
        clear h1 h2 h3
        go_wp2
        go_roundw
        case rel => exact ⟨k + 1, by omega, by go_num, by rw [HS'.out, HN.out]; exact HBx, hbw2⟩
        case measure => simp [intOf] <;> omega
    · obtain rfl : k = n := by omega
      rw [HLN.out] at HB
      clear HT
      generalize hs : refOf c q l = s at *
      obtain ⟨p, lf⟩ := s
      obtain ⟨wz, hwz⟩ : ∃ wz, wz = ((((((((wr.setCell ⟨w.heap.size, 0, none⟩ (.int .i64 p.known)).setCell ⟨w.heap.size, 1, none⟩ (.int .i64 p.last)).setCell ⟨w.heap.size, 2, none⟩ (.int .i64 p.age)).setCell ⟨w.heap.size, 3, none⟩ (.int .i64 p.tmo)).setCell ⟨w.heap.size, 4, none⟩ (.int .i64 p.wrong)).setCell ⟨w.heap.size, 5, none⟩ (.bool p.heard)).setCell ⟨w.heap.size, 6, none⟩ (.bool p.mutl)).setCell ⟨w.heap.size, 7, none⟩ (.bool lf)) := ⟨_, rfl⟩
      have hz : Blk wz w.heap.size 116 (peerC (p, lf)) := by
        rw [hwz]
        exact Blk.eq_ ((((((((HB.out.2.set_ 0 _).set_ 1 _).set_ 2 _).set_ 3 _).set_ 4 _).set_ 5 _).set_ 6 _).set_ 7 _) rfl
      have hbz : Below w.heap.size w wz := by
        rw [hwz]
        exact (((((((hb.setCell (by simp) _).setCell (by simp) _).setCell (by simp) _).setCell (by simp) _).setCell (by simp) _).setCell (by simp) _).setCell (by simp) _).setCell (by simp) _
      have HWZ := Lib.hid hwz
      have z0 : wz.cell? ⟨w.heap.size, 0, none⟩ = some (.int .i64 p.known) := hz.cell 0
      have z1 : wz.cell? ⟨w.heap.size, 1, none⟩ = some (.int .i64 p.last) := hz.cell 1
      have z2 : wz.cell? ⟨w.heap.size, 2, none⟩ = some (.int .i64 p.age) := hz.cell 2
      have z3 : wz.cell? ⟨w.heap.size, 3, none⟩ = some (.int .i64 p.tmo) := hz.cell 3
      have z4 : wz.cell? ⟨w.heap.size, 4, none⟩ = some (.int .i64 p.wrong) := hz.cell 4
      have z5 : wz.cell? ⟨w.heap.size, 5, none⟩ = some (.bool p.heard) := hz.cell 5
      have z6 : wz.cell? ⟨w.heap.size, 6, none⟩ = some (.bool p.mutl) := hz.cell 6
      have z7 : wz.cell? ⟨w.heap.size, 7, none⟩ = some (.bool lf) := hz.cell 7
      have g0 : wr.cell? ⟨PB, 0, none⟩ = some (.int .i64 p.known) := HB.out.1.cell 0
      have g1 : wr.cell? ⟨PB, 1, none⟩ = some (.int .i64 p.last) := HB.out.1.cell 1
      have g2 : wr.cell? ⟨PB, 2, none⟩ = some (.int .i64 p.age) := HB.out.1.cell 2
      have g3 : wr.cell? ⟨PB, 3, none⟩ = some (.int .i64 p.tmo) := HB.out.1.cell 3
      have g4 : wr.cell? ⟨PB, 4, none⟩ = some (.int .i64 p.wrong) := HB.out.1.cell 4
      have g5 : wr.cell? ⟨PB, 5, none⟩ = some (.bool p.heard) := HB.out.1.cell 5
      have g6 : wr.cell? ⟨PB, 6, none⟩ = some (.bool p.mutl) := HB.out.1.cell 6
      have g7 : wr.cell? ⟨PB, 7, none⟩ = some (.bool lf) := HB.out.1.cell 7
      have r := fun i => HB.out.2.cell i
      have r0 := r 0; have r1 := r 1; have r2 := r 2; have r3 := r 3; have r4 := r 4; have r5 := r 5; have r6 := r 6; have r7 := r 7
      have f := fun i => HB.out.2.frozen i
      have f0 := f 0; have f1 := f 1; have f2 := f 2; have f3 := f 3; have f4 := f 4; have f5 := f 5; have f6 := f 6; have f7 := f 7
      have HE : Hid (GivesPeer w (p, lf) (.returned (.agg #[.int .i64 p.known, .int .i64 p.last, .int .i64 p.age, .int .i64 p.tmo, .int .i64 p.wrong, .bool p.heard, .bool p.mutl, .bool lf])) wz) := ⟨rfl, hbz⟩
      clear hz hbz hs r f hwz
      go_wp2
      rw [← HWZ.out]
      exact bodyPost_ret (v := .agg #[.int .i64 p.known, .int .i64 p.last, .int .i64 p.age, .int .i64 p.tmo, .int .i64 p.wrong, .bool p.heard, .bool p.mutl, .bool lf]) (by simp [results, Try.results63, z0, z1, z2, z3, z4, z5, z6, z7, go_sem]) rfl HE.out
end Go.Proofs.Ytfjpmoigpnmeoaa
