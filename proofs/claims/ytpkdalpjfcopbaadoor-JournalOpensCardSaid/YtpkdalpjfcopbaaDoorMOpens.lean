/-
  JournalOpens: the law, walked.
-/
import Derived.Test.YtpkdalpjfcopbaaDoorMOpensP
import Derived.Test.YtpkdalpjfcopbaaDoorStruct
namespace Go.Proofs.YtpkdalpjfcopbaaDoor
open Go.ChangeShapes Go.WideShapes Go.ChangeAt Go.RowKit
theorem Fit.Disk {H : Type} {enc : TypeId × Value → H} {W : World} {cs : List Value} {d : DataW H} (h : Fit enc Tryd.prog W 24 cs d) :
    ∃ (A0 : Option Addr) (n0 k0 : Nat) (x0 : List UInt8) (A1 : Option Addr) (n1 k1 : Nat) (x1 : List UInt8), cs = [.slice A0 n0 k0, .slice A1 n1 k1] ∧ n0 ≤ k0 ∧ k0 ≤ 140737488351232 ∧ RdB W W.heap.size A0 n0 x0 ∧ n1 ≤ k1 ∧ k1 ≤ 140737488351232 ∧ RdB W W.heap.size A1 n1 x1 := by
  have hl := Fit.structLen Tryd.underlying24 h (by kernel_rfl : Tryd.prog.cellsOf 24 = 2)
  match cs, hl, h with
  | [c0, c1], _, h =>
  obtain ⟨df_0, f_0⟩ : ∃ di, Fit enc Tryd.prog W 22 [c0] di := Fit.fld (T := 22) (o := 0) (z := 1) Tryd.underlying24 h 0 rfl rfl rfl (by kernel_rfl)
  obtain ⟨A0, n0, k0, x0, e0, p0, q0, r0⟩ := f_0.bytes Tryd.underlying22 Tryd.underlying5 (by kernel_rfl) (by kernel_rfl)
  obtain rfl : c0 = .slice A0 n0 k0 := (List.cons.inj e0).1
  obtain ⟨df_1, f_1⟩ : ∃ di, Fit enc Tryd.prog W 22 [c1] di := Fit.fld (T := 22) (o := 1) (z := 1) Tryd.underlying24 h 1 rfl rfl rfl (by kernel_rfl)
  obtain ⟨A1, n1, k1, x1, e1, p1, q1, r1⟩ := f_1.bytes Tryd.underlying22 Tryd.underlying5 (by kernel_rfl) (by kernel_rfl)
  obtain rfl : c1 = .slice A1 n1 k1 := (List.cons.inj e1).1
  exact ⟨A0, n0, k0, x0, A1, n1, k1, x1, rfl, p0, q0, r0, p1, q1, r1⟩
theorem Fit.Record {H : Type} {enc : TypeId × Value → H} {W : World} {cs : List Value} {d : DataW H} (h : Fit enc Tryd.prog W 34 cs d) :
    ∃ (x0 : Int) (A1 : Option Addr) (n1 k1 : Nat) (x1 : List UInt8), cs = [.int .i64 x0, .slice A1 n1 k1] ∧ -9223372036854775808 ≤ x0 ∧ x0 ≤ 9223372036854775807 ∧ n1 ≤ k1 ∧ k1 ≤ 140737488351232 ∧ RdB W W.heap.size A1 n1 x1 := by
  have hl := Fit.structLen Tryd.underlying34 h (by kernel_rfl : Tryd.prog.cellsOf 34 = 2)
  match cs, hl, h with
  | [c0, c1], _, h =>
  obtain ⟨df_0, f_0⟩ : ∃ di, Fit enc Tryd.prog W 3 [c0] di := Fit.fld (T := 3) (o := 0) (z := 1) Tryd.underlying34 h 0 rfl rfl rfl (by kernel_rfl)
  obtain ⟨x0, e0, b0, t0⟩ := f_0.i64 Tryd.underlying3
  obtain rfl : c0 = .int .i64 x0 := (List.cons.inj e0).1
  obtain ⟨df_1, f_1⟩ : ∃ di, Fit enc Tryd.prog W 22 [c1] di := Fit.fld (T := 22) (o := 1) (z := 1) Tryd.underlying34 h 1 rfl rfl rfl (by kernel_rfl)
  obtain ⟨A1, n1, k1, x1, e1, p1, q1, r1⟩ := f_1.bytes Tryd.underlying22 Tryd.underlying5 (by kernel_rfl) (by kernel_rfl)
  obtain rfl : c1 = .slice A1 n1 k1 := (List.cons.inj e1).1
  exact ⟨x0, A1, n1, k1, x1, rfl, b0, t0, p1, q1, r1⟩
theorem rbox {W : World} {q D t : Nat} {cs : Array Value} (h : Blk W q t cs) (hD : q ≠ D) (u v : Value) : Blk ((W.setCell ⟨D, 0, none⟩ u).setCell ⟨D, 1, none⟩ v) q t cs :=
  h.chg (((Chg.refl (fun k => k = D) W).setCell (p := ⟨D, 0, none⟩) (.inl rfl) u).setCell (p := ⟨D, 1, none⟩) (.inl rfl) v) hD
set_option maxRecDepth 100000 in
set_option maxHeartbeats 6400000 in
theorem Opens_go (DA DB : Option Addr) (ca cb : Nat) (f : Fls) (kd : Int) (A : Option Addr) (n cap : Nat) (body : List UInt8) (w : World)
    (ha : RdB w w.heap.size DA f.a.length f.a) (hb : RdB w w.heap.size DB f.b.length f.b) (hla : f.a.length ≤ 140737488351232) (hlb : f.b.length ≤ 140737488351232) (hca : f.a.length ≤ ca) (hcb : f.b.length ≤ cb) (hma : ca ≤ 9223372036854775807) (hmb : cb ≤ 9223372036854775807) (hr : RdB w w.heap.size A n body) (_hn : n ≤ cap) (hm : n ≤ 140737488351232) (ht : Nibs w) :
    Calls Tryd.prog 4 #[.agg #[.slice DA f.a.length ca, .slice DB f.b.length cb], .agg #[.int .i64 kd, .slice A n cap]] w fun e w' => e = .returned (.bool true) ∧ Below w.heap.size w w' := by
  have HRA : Hid (∀ W, Below w.heap.size w W → RdB W w.heap.size DA f.a.length f.a) := Lib.hid fun W hW => ha.below hW
  have HRB : Hid (∀ W, Below w.heap.size w W → RdB W w.heap.size DB f.b.length f.b) := Lib.hid fun W hW => hb.below hW
  have HRR : Hid (∀ W, Below w.heap.size w W → RdB W w.heap.size A n body) := Lib.hid fun W hW => hr.below hW
  have HT := Lib.hid ht
  obtain ⟨w0, hw0⟩ : ∃ w1, w1 = w.alloc (.cells #[.slice DA f.a.length ca, .slice DB f.b.length cb] 24) := ⟨_, rfl⟩
  have hb0 : Below w.heap.size w w0 := by rw [hw0]; exact one_box' w _
  have hX0 : Blk w0 w.heap.size 24 #[.slice DA f.a.length ca, .slice DB f.b.length cb] := by rw [hw0]; exact Blk.new _ _ _
  obtain ⟨w1, hw1⟩ : ∃ w1, w1 = w0.alloc (.cells #[.int .i64 kd, .slice A n cap] 34) := ⟨_, rfl⟩
  have hb01 : Below w0.heap.size w0 w1 := by rw [hw1]; exact one_box' _ _
  have hb1 : Below w.heap.size w w1 := Below.then hb0 hb01
  have hX : Blk w1 w.heap.size 24 #[.slice DA f.a.length ca, .slice DB f.b.length cb] := hX0.over hb01
  have hs0 : w0.heap.size = w.heap.size + 1 := by rw [hw0]; simp
  have hXR : Blk w1 (w.heap.size + 1) 34 #[.int .i64 kd, .slice A n cap] := by rw [hw1, ← hs0]; exact Blk.new _ _ _
  obtain ⟨wd, hwd⟩ : ∃ wd, wd = w1.drew := ⟨_, rfl⟩
  have hbd : Below w1.heap.size w1 wd := by rw [hwd]; exact below_drewN (Below.refl _ _) 1
  have HSB : Hid (∀ W, Below wd.heap.size wd W → W.cell? ⟨w.heap.size, 0, none⟩ = some (.slice DA f.a.length ca) ∧ W.cell? ⟨w.heap.size, 1, none⟩ = some (.slice DB f.b.length cb)) := Lib.hid fun W hW => ⟨((hX.over hbd).over hW).cell 0, ((hX.over hbd).over hW).cell 1⟩
  have hbwd := hb1.trans (hbd.mono hb1.size)
  have HP := Lib.hid (⟨hbwd, Below.refl _ _, fun v p e => by (cases e), fun v p e => by (cases e), fun v e => by (cases e), fun v p g q e => by (cases e)⟩ : P1 w wd wd f none none none)
  have HXD := Lib.hid (hX.over hbd)
  have hsD : w.heap.size ≤ wd.heap.size := hbwd.size
  have HW1 := Lib.hid (And.intro hw0 hw1)
  have HWD := Lib.hid hwd
  have HXR := Lib.hid (hXR.over hbd)
  clear ha hb hw0 hw1 hb0 hb01 hb1 hX0 hX hXR hs0 hwd hbd hbwd hr ht
  go_enter Tryd.func4, Tryd.ntmps4
  go_upto_region 1 with fail
  rw [← HW1.out.1]
  rw [← HW1.out.2]
  go_cut [5] from 23 to 156 (fun d wc => ∃ C ga gb pa pb, d = .pointer (some ⟨C, 0, none⟩) ∧ Hid (Pre w DA DB ca cb f C ga gb pa pb wc) ∧ Hid (Blk wc (w.heap.size + 1) 34 #[.int .i64 kd, .slice A n cap]))
  case first =>
    refine wp_region_held_drew (S := fun W => W.cell? ⟨w.heap.size, 0, none⟩ = some (.slice DA f.a.length ca) ∧ W.cell? ⟨w.heap.size, 1, none⟩ = some (.slice DB f.b.length cb)) (by kernel_rfl) (by rw [← HWD.out]; exact HSB.out _ (Below.refl _ _)) (fun hsw => ?_)
    rw [← HWD.out] at hsw ⊢
    refine wpAnyH_take (i := 0) (oi := ?oi0a) (v := ?v0a) ?hi0a (by kernel_rfl) (by kernel_rfl) (by kernel_rfl) ?hq0a ?hy0a (by assumption) ?rest0a
    case hi0a => (simp only [List.getElem?_toArray, List.getElem?_cons_zero]; rfl)
    case hy0a => (refine Or.inl ⟨by rfl, ?_⟩; intro w hSw; (try dsimp only at hSw); go_simp; try with_reducible rfl)
    case hq0a => exact fun _ _ _ h => h
    try simp only [Act.put, List.setIfInBounds_toArray, List.set_cons_zero, List.set_cons_succ]
    refine wpAnyH_take (i := 1) (oi := ?oi1a) (v := ?v1a) ?hi1a (by kernel_rfl) (by kernel_rfl) (by kernel_rfl) ?hq1a ?hy1a (by assumption) ?rest1a
    case hi1a => (simp only [List.getElem?_toArray, List.getElem?_cons_zero, List.getElem?_cons_succ]; rfl)
    case hy1a => (refine Or.inl ⟨by rfl, ?_⟩; intro w hSw; (try dsimp only at hSw); go_simp; try with_reducible rfl)
    case hq1a => exact fun _ _ _ h => h
    try simp only [Act.put, List.setIfInBounds_toArray, List.set_cons_zero, List.set_cons_succ]
    refine wpAnyH_take (i := 3) (oi := ?oi3a) (v := ?v3a) ?hi3a (by kernel_rfl) (by kernel_rfl) (by kernel_rfl) ?hq3a ?hy3a (by assumption) ?rest3a
    case hi3a => (simp only [List.getElem?_toArray, List.getElem?_cons_zero, List.getElem?_cons_succ]; rfl)
    case hy3a => (refine Or.inl ⟨by rfl, ?_⟩; intro w hSw; (try dsimp only at hSw); go_simp; try with_reducible rfl)
    case hq3a => exact fun _ _ _ h => h
    try simp only [Act.put, List.setIfInBounds_toArray, List.set_cons_zero, List.set_cons_succ]
    refine wpAnyH_take (i := 4) (oi := ?oi4a) (v := ?v4a) ?hi4a (by kernel_rfl) (by kernel_rfl) (by kernel_rfl) ?hq4a ?hy4a (by assumption) ?rest4a
    case hi4a => (simp only [List.getElem?_toArray, List.getElem?_cons_zero, List.getElem?_cons_succ]; rfl)
    case hy4a => (refine Or.inl ⟨by rfl, ?_⟩; intro w hSw; (try dsimp only at hSw); go_simp; try with_reducible rfl)
    case hq4a => exact fun _ _ _ h => h
    try simp only [Act.put, List.setIfInBounds_toArray, List.set_cons_zero, List.set_cons_succ]
    refine wpAnyH_ready (rs := [2, 7]) (by kernel_rfl) (by simp) ?_
    refine AllReadyH.cons (o := ?o2p1) ?ho2p1 (fun K hK => ?st2p1) ?mo2p1
    case ho2p1 => (simp only [List.getElem?_toArray, List.getElem?_cons_zero, List.getElem?_cons_succ]; rfl)
    · skip
      have hbW := HP.out.bw.trans (HP.out.b0.mono hsD)
      have HSP := Lib.hid (spare_sp DA ca f.a wd ((HRA.out _ hbW).more hbW.size) (by omega))
      clear hbW
      go_simp
      refine HSP.out.mono ?_
      rintro _ wp1 ⟨gp1, cp1, rfl, hgp1, hsp1, hbp1⟩
      have Hp1 := Lib.hid (HP.out.spA hbp1 hgp1 hsp1)
      clear hgp1 hsp1 hbp1 HSP
      go_simp
      refine hK.out _ _ (HSB.out _ Hp1.out.b0) (fun _ => ?_)
      clear hK K
      try simp only [Act.put, List.setIfInBounds_toArray, List.set_cons_zero, List.set_cons_succ]
      refine wpAnyH_ready (rs := [5, 7]) (by kernel_rfl) (by simp) ?_
      refine AllReadyH.cons (o := ?o5p2) ?ho5p2 (fun K hK => ?st5p2) ?mo5p2
      case ho5p2 => (simp only [List.getElem?_toArray, List.getElem?_cons_zero, List.getElem?_cons_succ]; rfl)
      · skip
        have hbW := Hp1.out.bw.trans (Hp1.out.b0.mono hsD)
        have HSP := Lib.hid (spare_sp DB cb f.b wp1 ((HRB.out _ hbW).more hbW.size) (by omega))
        clear hbW
        go_simp
        refine HSP.out.mono ?_
        rintro _ wp2 ⟨gp2, cp2, rfl, hgp2, hsp2, hbp2⟩
        have Hp2 := Lib.hid (Hp1.out.spB hbp2 hgp2 hsp2)
        clear hgp2 hsp2 hbp2 HSP
        go_simp
        refine hK.out _ _ (HSB.out _ Hp2.out.b0) (fun _ => ?_)
        clear hK K
        try simp only [Act.put, List.setIfInBounds_toArray, List.set_cons_zero, List.set_cons_succ]
        refine wpAnyH_take (i := 6) (oi := ?oi6p3) (v := ?v6p3) ?hi6p3 (by kernel_rfl) (by kernel_rfl) (by kernel_rfl) ?hq6p3 ?hy6p3 (by assumption) ?rest6p3
        case hi6p3 => (simp only [List.getElem?_toArray, List.getElem?_cons_zero, List.getElem?_cons_succ]; rfl)
        case hy6p3 => (refine Or.inl ⟨by rfl, ?_⟩; intro w hSw; (try dsimp only at hSw); go_simp; try with_reducible rfl)
        case hq6p3 => exact fun _ _ _ h => h
        try simp only [Act.put, List.setIfInBounds_toArray, List.set_cons_zero, List.set_cons_succ]
        refine wpAnyH_ready (rs := [7]) (by kernel_rfl) (by simp) ?_
        refine AllReadyH.cons (o := ?o7p4) ?ho7p4 (fun K hK => ?st7p4) ?mo7p4
        case ho7p4 => (simp only [List.getElem?_toArray, List.getElem?_cons_zero, List.getElem?_cons_succ]; rfl)
        · skip
          have Hp4 := Lib.hid Hp2.out.box
          obtain ⟨wp4, hwp4⟩ : ∃ w', w' = wp2.alloc (.cells #[.slice none 0 0, .slice none 0 0] 24) := ⟨_, rfl⟩
          rw [← hwp4] at Hp4
          go_simp
          rw [← hwp4]
          clear hwp4
          refine hK.out _ _ (HSB.out _ Hp4.out.b0) (fun _ => ?_)
          clear hK K
          try simp only [Act.put, List.setIfInBounds_toArray, List.set_cons_zero, List.set_cons_succ]
          refine wpAnyH_ready (rs := [8]) (by kernel_rfl) (by simp) ?_
          refine AllReadyH.cons (o := ?o8p5) ?ho8p5 (fun K hK => ?st8p5) ?mo8p5
          case ho8p5 => (simp only [List.getElem?_toArray, List.getElem?_cons_zero, List.getElem?_cons_succ]; rfl)
          · skip
            obtain ⟨hBD, hDge⟩ := Hp4.out.od _ rfl
            have c0 := hBD.cell 0
            have c1 := hBD.cell 1
            have q0 := hBD.frozen 0
            have q1 := hBD.frozen 1
            have HFI := Lib.hid (Hp4.out.fin HXD.out)
            have hS := And.intro (HFI.out.x0.cell 0) (HFI.out.x0.cell 1)
            clear hBD
            go_simp
            refine hK.out _ _ hS (fun _ => ?_)
            clear hK K
            refine wpAnyH_done (by kernel_rfl) ?_ _
            go_wp2_with fail
            go_meet
            exact ⟨_, _, _, _, _, rfl, HFI, Lib.hid (rbox (HXR.out.over Hp4.out.b0) (by have := HXR.out.lt; omega) _ _)⟩
          exact AllReadyH.nil
        exact AllReadyH.nil
      refine AllReadyH.cons (o := ?o7p6) ?ho7p6 (fun K hK => ?st7p6) ?mo7p6
      case ho7p6 => (simp only [List.getElem?_toArray, List.getElem?_cons_zero, List.getElem?_cons_succ]; rfl)
      · skip
        have Hp6 := Lib.hid Hp1.out.box
        obtain ⟨wp6, hwp6⟩ : ∃ w', w' = wp1.alloc (.cells #[.slice none 0 0, .slice none 0 0] 24) := ⟨_, rfl⟩
        rw [← hwp6] at Hp6
        go_simp
        rw [← hwp6]
        clear hwp6
        refine hK.out _ _ (HSB.out _ Hp6.out.b0) (fun _ => ?_)
        clear hK K
        try simp only [Act.put, List.setIfInBounds_toArray, List.set_cons_zero, List.set_cons_succ]
        refine wpAnyH_ready (rs := [5]) (by kernel_rfl) (by simp) ?_
        refine AllReadyH.cons (o := ?o5p7) ?ho5p7 (fun K hK => ?st5p7) ?mo5p7
        case ho5p7 => (simp only [List.getElem?_toArray, List.getElem?_cons_zero, List.getElem?_cons_succ]; rfl)
        · skip
          have hbW := Hp6.out.bw.trans (Hp6.out.b0.mono hsD)
          have HSP := Lib.hid (spare_sp DB cb f.b wp6 ((HRB.out _ hbW).more hbW.size) (by omega))
          clear hbW
          go_simp
          refine HSP.out.mono ?_
          rintro _ wp7 ⟨gp7, cp7, rfl, hgp7, hsp7, hbp7⟩
          have Hp7 := Lib.hid (Hp6.out.spB hbp7 hgp7 hsp7)
          clear hgp7 hsp7 hbp7 HSP
          go_simp
          refine hK.out _ _ (HSB.out _ Hp7.out.b0) (fun _ => ?_)
          clear hK K
          try simp only [Act.put, List.setIfInBounds_toArray, List.set_cons_zero, List.set_cons_succ]
          refine wpAnyH_take (i := 6) (oi := ?oi6p8) (v := ?v6p8) ?hi6p8 (by kernel_rfl) (by kernel_rfl) (by kernel_rfl) ?hq6p8 ?hy6p8 (by assumption) ?rest6p8
          case hi6p8 => (simp only [List.getElem?_toArray, List.getElem?_cons_zero, List.getElem?_cons_succ]; rfl)
          case hy6p8 => (refine Or.inl ⟨by rfl, ?_⟩; intro w hSw; (try dsimp only at hSw); go_simp; try with_reducible rfl)
          case hq6p8 => exact fun _ _ _ h => h
          try simp only [Act.put, List.setIfInBounds_toArray, List.set_cons_zero, List.set_cons_succ]
          refine wpAnyH_ready (rs := [8]) (by kernel_rfl) (by simp) ?_
          refine AllReadyH.cons (o := ?o8p9) ?ho8p9 (fun K hK => ?st8p9) ?mo8p9
          case ho8p9 => (simp only [List.getElem?_toArray, List.getElem?_cons_zero, List.getElem?_cons_succ]; rfl)
          · skip
            obtain ⟨hBD, hDge⟩ := Hp7.out.od _ rfl
            have c0 := hBD.cell 0
            have c1 := hBD.cell 1
            have q0 := hBD.frozen 0
            have q1 := hBD.frozen 1
            have HFI := Lib.hid (Hp7.out.fin HXD.out)
            have hS := And.intro (HFI.out.x0.cell 0) (HFI.out.x0.cell 1)
            clear hBD
            go_simp
            refine hK.out _ _ hS (fun _ => ?_)
            clear hK K
            refine wpAnyH_done (by kernel_rfl) ?_ _
            go_wp2_with fail
            go_meet
            exact ⟨_, _, _, _, _, rfl, HFI, Lib.hid (rbox (HXR.out.over Hp7.out.b0) (by have := HXR.out.lt; omega) _ _)⟩
          exact AllReadyH.nil
        exact AllReadyH.nil
      exact AllReadyH.nil
    refine AllReadyH.cons (o := ?o7p10) ?ho7p10 (fun K hK => ?st7p10) ?mo7p10
    case ho7p10 => (simp only [List.getElem?_toArray, List.getElem?_cons_zero, List.getElem?_cons_succ]; rfl)
    · skip
      have Hp10 := Lib.hid HP.out.box
      obtain ⟨wp10, hwp10⟩ : ∃ w', w' = wd.alloc (.cells #[.slice none 0 0, .slice none 0 0] 24) := ⟨_, rfl⟩
      rw [← hwp10] at Hp10
      go_simp
      rw [← hwp10]
      clear hwp10
      refine hK.out _ _ (HSB.out _ Hp10.out.b0) (fun _ => ?_)
      clear hK K
      try simp only [Act.put, List.setIfInBounds_toArray, List.set_cons_zero, List.set_cons_succ]
      refine wpAnyH_ready (rs := [2]) (by kernel_rfl) (by simp) ?_
      refine AllReadyH.cons (o := ?o2p11) ?ho2p11 (fun K hK => ?st2p11) ?mo2p11
      case ho2p11 => (simp only [List.getElem?_toArray, List.getElem?_cons_zero, List.getElem?_cons_succ]; rfl)
      · skip
        have hbW := Hp10.out.bw.trans (Hp10.out.b0.mono hsD)
        have HSP := Lib.hid (spare_sp DA ca f.a wp10 ((HRA.out _ hbW).more hbW.size) (by omega))
        clear hbW
        go_simp
        refine HSP.out.mono ?_
        rintro _ wp11 ⟨gp11, cp11, rfl, hgp11, hsp11, hbp11⟩
        have Hp11 := Lib.hid (Hp10.out.spA hbp11 hgp11 hsp11)
        clear hgp11 hsp11 hbp11 HSP
        go_simp
        refine hK.out _ _ (HSB.out _ Hp11.out.b0) (fun _ => ?_)
        clear hK K
        try simp only [Act.put, List.setIfInBounds_toArray, List.set_cons_zero, List.set_cons_succ]
        refine wpAnyH_ready (rs := [5]) (by kernel_rfl) (by simp) ?_
        refine AllReadyH.cons (o := ?o5p12) ?ho5p12 (fun K hK => ?st5p12) ?mo5p12
        case ho5p12 => (simp only [List.getElem?_toArray, List.getElem?_cons_zero, List.getElem?_cons_succ]; rfl)
        · skip
          have hbW := Hp11.out.bw.trans (Hp11.out.b0.mono hsD)
          have HSP := Lib.hid (spare_sp DB cb f.b wp11 ((HRB.out _ hbW).more hbW.size) (by omega))
          clear hbW
          go_simp
          refine HSP.out.mono ?_
          rintro _ wp12 ⟨gp12, cp12, rfl, hgp12, hsp12, hbp12⟩
          have Hp12 := Lib.hid (Hp11.out.spB hbp12 hgp12 hsp12)
          clear hgp12 hsp12 hbp12 HSP
          go_simp
          refine hK.out _ _ (HSB.out _ Hp12.out.b0) (fun _ => ?_)
          clear hK K
          try simp only [Act.put, List.setIfInBounds_toArray, List.set_cons_zero, List.set_cons_succ]
          refine wpAnyH_take (i := 6) (oi := ?oi6p13) (v := ?v6p13) ?hi6p13 (by kernel_rfl) (by kernel_rfl) (by kernel_rfl) ?hq6p13 ?hy6p13 (by assumption) ?rest6p13
          case hi6p13 => (simp only [List.getElem?_toArray, List.getElem?_cons_zero, List.getElem?_cons_succ]; rfl)
          case hy6p13 => (refine Or.inl ⟨by rfl, ?_⟩; intro w hSw; (try dsimp only at hSw); go_simp; try with_reducible rfl)
          case hq6p13 => exact fun _ _ _ h => h
          try simp only [Act.put, List.setIfInBounds_toArray, List.set_cons_zero, List.set_cons_succ]
          refine wpAnyH_ready (rs := [8]) (by kernel_rfl) (by simp) ?_
          refine AllReadyH.cons (o := ?o8p14) ?ho8p14 (fun K hK => ?st8p14) ?mo8p14
          case ho8p14 => (simp only [List.getElem?_toArray, List.getElem?_cons_zero, List.getElem?_cons_succ]; rfl)
          · skip
            obtain ⟨hBD, hDge⟩ := Hp12.out.od _ rfl
            have c0 := hBD.cell 0
            have c1 := hBD.cell 1
            have q0 := hBD.frozen 0
            have q1 := hBD.frozen 1
            have HFI := Lib.hid (Hp12.out.fin HXD.out)
            have hS := And.intro (HFI.out.x0.cell 0) (HFI.out.x0.cell 1)
            clear hBD
            go_simp
            refine hK.out _ _ hS (fun _ => ?_)
            clear hK K
            refine wpAnyH_done (by kernel_rfl) ?_ _
            go_wp2_with fail
            go_meet
            exact ⟨_, _, _, _, _, rfl, HFI, Lib.hid (rbox (HXR.out.over Hp12.out.b0) (by have := HXR.out.lt; omega) _ _)⟩
          exact AllReadyH.nil
        exact AllReadyH.nil
      exact AllReadyH.nil
    exact AllReadyH.nil
  case rest =>
    obtain ⟨C, ga, gb, pa, pb, rfl, HPR, HRX⟩ := hcut
    obtain ⟨wp, HWY⟩ : ∃ wp, Hid (wc = wp) := ⟨_, Lib.hid rfl⟩
    rw [HWY.out] at HPR HRX ⊢
    clear HWY HW1 HWD HSB HP HXD hsD HXR
    have hsP : w.heap.size ≤ wp.heap.size := HPR.out.bw.size
    have hpa : f.a.length + 64 ≤ pa ∧ pa ≤ 9223372036854775807 := by
      obtain ⟨_, _, _, _, h1, h2⟩ := HPR.out.sa
      exact ⟨h1, h2⟩
    have hpb : f.b.length + 64 ≤ pb ∧ pb ≤ 9223372036854775807 := by
      obtain ⟨_, _, _, _, h1, h2⟩ := HPR.out.sb
      exact ⟨h1, h2⟩
    have HOP := Lib.hid (Open_any (w := wp) (f := f) (c0 := pa) (c1 := pb) HPR.out.sa.rd HPR.out.sb.rd (by omega) (by omega) hpa.2 hpb.2 (HT.out.below HPR.out.bw))
    have z0 : wp.cell? ⟨C, 0, none⟩ = some (.slice (some ⟨ga, 0, none⟩) f.a.length pa) := HPR.out.c.cell 0
    have z1 : wp.cell? ⟨C, 1, none⟩ = some (.slice (some ⟨gb, 0, none⟩) f.b.length pb) := HPR.out.c.cell 1
    rcases or_cases (openR f) with ⟨er, her, hPn, hRn⟩ | ⟨j, recs, ws, ho⟩
    · have HN := Lib.hid (HOP.out.mono fun e w' h => hPn wp e w' h)
      have HRN := Lib.hid hRn
      have HFX : Hid True := Lib.hid trivial
      clear hPn hRn HOP
      go_upto_region 3 with (go_at_call 17; refine HN.out.mono ?_; rintro _ w2 ⟨rfl, hb2⟩; have H2 := Lib.hid hb2; clear hb2)
      have hP2 := HPR.out.over H2.out
      have HIA : Hid (RdB w2 w.heap.size DA f.a.length f.a) := Lib.hid (HRA.out _ hP2.bw)
      have HIB : Hid (RdB w2 w.heap.size DB f.b.length f.b) := Lib.hid (HRB.out _ hP2.bw)
      have y0 : w2.cell? ⟨C, 0, none⟩ = some (.slice (some ⟨ga, 0, none⟩) f.a.length pa) := hP2.c.cell 0
      have y1 : w2.cell? ⟨C, 1, none⟩ = some (.slice (some ⟨gb, 0, none⟩) f.b.length pb) := hP2.c.cell 1
      have x0 : w2.cell? ⟨w.heap.size, 0, none⟩ = some (.slice DA f.a.length ca) := hP2.x0.cell 0
      have x1 : w2.cell? ⟨w.heap.size, 1, none⟩ = some (.slice DB f.b.length cb) := hP2.x0.cell 1
      have HP2 := Lib.hid hP2
      clear hP2 z0 z1
      go_upto_region 4 with (go_at_call 16; refine (intact_sp _ _ w.heap.size _ _ (by first | exact HP2.out.sa | exact HP2.out.sb) (by first | exact HIA.out | exact HIB.out)).mono ?_; rintro _ _ ⟨rfl, rfl⟩)
      go_upto_region 5 with (go_at_call 18; refine (full_sp f.a w2 HP2.out.sa (by omega)).mono ?_; rintro _ w3 ⟨rfl, hf3, hc3⟩; have H3 := Lib.hid (And.intro hf3 hc3); clear hf3 hc3)
      have HP3 := Lib.hid (HP2.out.half H3.out.1 H3.out.2)
      have u1 : w3.cell? ⟨C, 1, none⟩ = some (.slice (some ⟨gb, 0, none⟩) f.b.length pb) := HP3.out.c.cell 1
      clear y0 y1 x0 x1
      go_upto_region 6 with (go_at_call 18; refine (full_sp f.b w3 HP3.out.sb (by omega)).mono ?_; rintro _ w4 ⟨rfl, hf4, hc4⟩; have H4 := Lib.hid (And.intro hf4 hc4); clear hf4 hc4)
      have HP4 := Lib.hid (HP3.out.whole H4.out.1 H4.out.2)
      have v0 : w4.cell? ⟨w.heap.size, 0, none⟩ = some (.slice DA f.a.length ca) := HP4.out.x0.cell 0
      have v1 : w4.cell? ⟨w.heap.size, 1, none⟩ = some (.slice DB f.b.length cb) := HP4.out.x0.cell 1
      have HRO := Lib.hid (ROpen_any (w := w4) (f := f) (c0 := ca) (c1 := cb) ((HRA.out _ HP4.out.bw).more HP4.out.bw.size) ((HRB.out _ HP4.out.bw).more HP4.out.bw.size) hca hcb hma hmb)
      clear u1
      go_upto_region 7 with (go_at_call 19; refine (HRO.out.mono fun e w' h => HRN.out w4 e w' h).mono ?_; rintro _ w5 ⟨rfl, hb5⟩; have H5 := Lib.hid hb5; clear hb5)
      clear v0 v1 HRO
      have HP5 := Lib.hid (HP4.out.over H5.out)
      go_upto_region 9 with (first
        | (go_at_call 20; refine (num_c er).mono ?_; rintro _ _ ⟨rfl, rfl⟩)
        | (go_at_call 14; refine (records_yes (RcRd.nil none) (RcRd.nil none) (by omega)).mono ?_; rintro _ w6 ⟨rfl, hb6⟩; have H6 := Lib.hid hb6; clear hb6)
        | (go_at_call 21; refine (writes_yes (wsAt_nil w6 none) (wsAt_nil w6 none) (by omega)).mono ?_; rintro _ w7 ⟨rfl, hb7⟩; have H7 := Lib.hid hb7; clear hb7))
      have HP7 := Lib.hid ((HP5.out.over H6.out).over H7.out)
      have HEE := Lib.hid (Open_ee (w := w7) (pa := pa) (pb := pb) HP7.out.fa HP7.out.fb (by omega) (by omega) hpa.2 hpb.2 (HT.out.below HP7.out.bw))
      have t0 : w7.cell? ⟨C, 0, none⟩ = some (.slice (some ⟨ga, 0, none⟩) f.a.length pa) := HP7.out.c.cell 0
      have t1 : w7.cell? ⟨C, 1, none⟩ = some (.slice (some ⟨gb, 0, none⟩) f.b.length pb) := HP7.out.c.cell 1
      rcases or_cases (openR ⟨ee f.a.length, ee f.b.length⟩) with ⟨er2, her2, hPn2, hRn2⟩ | ⟨j2, recs2, ws2, ho2⟩
      · have HN2 := Lib.hid (HEE.out.mono fun e w' h => hPn2 _ e w' h)
        have HRN2 := Lib.hid hRn2
        clear hPn2 hRn2 HEE
        go_upto_region 10 with (go_at_call 17; refine HN2.out.mono ?_; rintro _ w8 ⟨rfl, hb8⟩; have H8 := Lib.hid hb8; clear hb8)
        have HP8 := Lib.hid (HP7.out.over H8.out)
        have HRE := Lib.hid (ROpen_ee (w := w8) (pa := pa) (pb := pb) HP8.out.fa HP8.out.fb (by omega) (by omega) hpa.2 hpb.2)
        have s0 : w8.cell? ⟨C, 0, none⟩ = some (.slice (some ⟨ga, 0, none⟩) f.a.length pa) := HP8.out.c.cell 0
        have s1 : w8.cell? ⟨C, 1, none⟩ = some (.slice (some ⟨gb, 0, none⟩) f.b.length pb) := HP8.out.c.cell 1
        clear t0 t1
        go_upto_region 11 with (go_at_call 19; refine (HRE.out.mono fun e w' h => HRN2.out _ e w' h).mono ?_; rintro _ w9 ⟨rfl, hb9⟩; have H9 := Lib.hid hb9; clear hb9)
        have HP9 := Lib.hid (HP8.out.over H9.out)
        clear s0 s1 HRE
        go_upto_region 13 with (go_at_call 20; refine (num_c er2).mono ?_; rintro _ _ ⟨rfl, rfl⟩)
        go_wp2_with fail
        go_ret
        exact ⟨rfl, HP9.out.bw⟩
      · rw [ho2] at HEE
        have HN2 := Lib.hid (HEE.out.mono fun e w' h => opened_some h)
        have HO2 := Lib.hid ho2
        clear ho2 HEE
        go_upto_region 10 with (go_at_call 17; refine HN2.out.mono ?_; rintro _ w8 ⟨zg, zl, zw, rfl, hb8⟩; have H8 := Lib.hid hb8; clear hb8)
        have HP8 := Lib.hid (HP7.out.over H8.out)
        have HRE := Lib.hid ((ROpen_ee (w := w8) (pa := pa) (pb := pb) HP8.out.fa HP8.out.fb (by omega) (by omega) hpa.2 hpb.2).mono fun e w' h => ropened_some (HO2.out ▸ h))
        have s0 : w8.cell? ⟨C, 0, none⟩ = some (.slice (some ⟨ga, 0, none⟩) f.a.length pa) := HP8.out.c.cell 0
        have s1 : w8.cell? ⟨C, 1, none⟩ = some (.slice (some ⟨gb, 0, none⟩) f.b.length pb) := HP8.out.c.cell 1
        clear t0 t1
        go_upto_region 11 with (go_at_call 19; refine HRE.out.mono ?_; rintro _ w9 ⟨yg, yl, yw, rfl, hb9⟩; have H9 := Lib.hid hb9; clear hb9)
        have HP9 := Lib.hid (HP8.out.over H9.out)
        clear s0 s1 HRE
        go_upto_region 13 with (go_at_call 20; refine (num_c 0).mono ?_; rintro _ _ ⟨rfl, rfl⟩)
        go_wp2_with fail
        go_ret
        exact ⟨rfl, HP9.out.bw⟩
    · rw [ho] at HOP
      have HFI := Lib.hid (openR_fine ho).1
      have HO := Lib.hid ho
      have HGL : Hid (ga < wp.heap.size ∧ gb < wp.heap.size) := Lib.hid ⟨by obtain ⟨c, h⟩ := HPR.out.sa.blk; exact h.lt, by obtain ⟨c, h⟩ := HPR.out.sb.blk; exact h.lt⟩
      clear ho
      go_upto_region 3 with (go_at_call 17; refine HOP.out.mono ?_; rintro _ w2 ⟨hb2, jg, vl, vw, Kp, rfl, hj1, hj2, hj3, hj4, hj5⟩; obtain ⟨Al, cl, rfl⟩ := hj4.shapeN hj3; obtain ⟨Aw, cw, rfl⟩ := hj5.shapeN; have H2 := Lib.hid hb2; have HJ2 : Hid (Jn wp.heap.size j recs ws jg (.slice Al recs.length cl) (.slice Aw ws.length cw) Kp w2) := Lib.hid ⟨hj2, hj1, hj3, hj4, hj5⟩; clear hb2 hj1 hj2 hj3 hj4 hj5)
      have hP2 := HPR.out.over H2.out
      have HIA : Hid (RdB w2 w.heap.size DA f.a.length f.a) := Lib.hid (HRA.out _ hP2.bw)
      have HIB : Hid (RdB w2 w.heap.size DB f.b.length f.b) := Lib.hid (HRB.out _ hP2.bw)
      have y0 : w2.cell? ⟨C, 0, none⟩ = some (.slice (some ⟨ga, 0, none⟩) f.a.length pa) := hP2.c.cell 0
      have y1 : w2.cell? ⟨C, 1, none⟩ = some (.slice (some ⟨gb, 0, none⟩) f.b.length pb) := hP2.c.cell 1
      have x0 : w2.cell? ⟨w.heap.size, 0, none⟩ = some (.slice DA f.a.length ca) := hP2.x0.cell 0
      have x1 : w2.cell? ⟨w.heap.size, 1, none⟩ = some (.slice DB f.b.length cb) := hP2.x0.cell 1
      have HP2 := Lib.hid hP2
      clear hP2 z0 z1
      go_upto_region 4 with (go_at_call 16; refine (intact_sp _ _ w.heap.size _ _ (by first | exact HP2.out.sa | exact HP2.out.sb) (by first | exact HIA.out | exact HIB.out)).mono ?_; rintro _ _ ⟨rfl, rfl⟩)
      go_upto_region 5 with (go_at_call 18; refine (full_sp f.a w2 HP2.out.sa (by omega)).mono ?_; rintro _ w3 ⟨rfl, hf3, hc3⟩; have H3 := Lib.hid (And.intro hf3 hc3); clear hf3 hc3)
      have HJ3 := Lib.hid (HJ2.out.chg H3.out.2 fun k e => e ▸ HGL.out.1)
      have HX3 : Hid (Blk w3 (w.heap.size + 1) 34 #[.int .i64 kd, .slice A n cap]) := Lib.hid ((HRX.out.over H2.out).chg H3.out.2 fun e => by
        obtain ⟨cua, hBa⟩ := HP2.out.sa.blk
        exact hBa.ne_ (HRX.out.over H2.out) (by decide) e.symm)
      have HP3 := Lib.hid (HP2.out.half H3.out.1 H3.out.2)
      have u1 : w3.cell? ⟨C, 1, none⟩ = some (.slice (some ⟨gb, 0, none⟩) f.b.length pb) := HP3.out.c.cell 1
      clear y0 y1 x0 x1
      go_upto_region 6 with (go_at_call 18; refine (full_sp f.b w3 HP3.out.sb (by omega)).mono ?_; rintro _ w4 ⟨rfl, hf4, hc4⟩; have H4 := Lib.hid (And.intro hf4 hc4); clear hf4 hc4)
      have HJ4 := Lib.hid (HJ3.out.chg H4.out.2 fun k e => e ▸ HGL.out.2)
      have HX4 : Hid (Blk w4 (w.heap.size + 1) 34 #[.int .i64 kd, .slice A n cap]) := Lib.hid (HX3.out.chg H4.out.2 fun e => by
        obtain ⟨cub, hBb⟩ := HP3.out.sb.blk
        exact hBb.ne_ HX3.out (by decide) e.symm)
      have HP4 := Lib.hid (HP3.out.whole H4.out.1 H4.out.2)
      have v0 : w4.cell? ⟨w.heap.size, 0, none⟩ = some (.slice DA f.a.length ca) := HP4.out.x0.cell 0
      have v1 : w4.cell? ⟨w.heap.size, 1, none⟩ = some (.slice DB f.b.length cb) := HP4.out.x0.cell 1
      have HRO := Lib.hid (ROpen_any (w := w4) (f := f) (c0 := ca) (c1 := cb) ((HRA.out _ HP4.out.bw).more HP4.out.bw.size) ((HRB.out _ HP4.out.bw).more HP4.out.bw.size) hca hcb hma hmb)
      clear u1
      rw [HO.out] at HRO
      go_upto_region 7 with (go_at_call 19; refine HRO.out.mono ?_; rintro _ w5 ⟨hb5, kg, vm, vv, Kr, F, rfl, hr1, hr2, hr3, hr4, hr5⟩; obtain ⟨Am, cm, rfl⟩ := hr4.shapeN hr3; obtain ⟨Av, cv, rfl⟩ := hr5.shapeN; have H5 := Lib.hid hb5; have HR5 := Lib.hid hr1; have HFF := Lib.hid hr2; have HM5 := Lib.hid (And.intro (hr4.rdN hr3) hr5.wsN); clear hb5 hr1 hr2 hr3 hr4 hr5)
      clear v0 v1 HRO
      have HP5 := Lib.hid (HP4.out.over H5.out)
      have HJ5 := Lib.hid (HJ4.out.over H5.out)
      have HRY := Lib.hid (records_yes (c1 := cl) (c2 := cm) (HJ5.out.own.rdN HJ5.out.rc) HM5.out.1 (by have := HFI.out.len; have := bodies_le recs; have := (openR_fine HO.out).2; have h1 : j.text.length = 18 + bodies j.recs := textB_length _ _ _; rw [← this] at h1; omega))
      go_upto_region 9 with (first
        | (go_at_call 20; refine (num_c 0).mono ?_; rintro _ _ ⟨rfl, rfl⟩)
        | (go_at_call 14; refine HRY.out.mono ?_; rintro _ w6 ⟨rfl, hb6⟩; have H6 := Lib.hid hb6; clear hb6)
        | (go_at_call 21; refine (writes_yes (w := w6) (HJ5.out.wo.wsN.below H6.out) (HM5.out.2.below H6.out) (by have := HJ5.out.wo.few; omega)).mono ?_; rintro _ w7 ⟨rfl, hb7⟩; have H7 := Lib.hid hb7; clear hb7))
      have HP7 := Lib.hid ((HP5.out.over H6.out).over H7.out)
      have H57 := Lib.hid (Below.then H6.out H7.out)
      have H47 := Lib.hid (Below.then H5.out H57.out)
      have HS57 : Hid (w5.heap.size ≤ w7.heap.size) := Lib.hid H57.out.size
      have HJ7 := Lib.hid (HJ5.out.over H57.out)
      have HR7 := Lib.hid (HR5.out.below H57.out)
      have HEE := Lib.hid (Open_ee (w := w7) (pa := pa) (pb := pb) HP7.out.fa HP7.out.fb (by omega) (by omega) hpa.2 hpb.2 (HT.out.below HP7.out.bw))
      have t0 : w7.cell? ⟨C, 0, none⟩ = some (.slice (some ⟨ga, 0, none⟩) f.a.length pa) := HP7.out.c.cell 0
      have t1 : w7.cell? ⟨C, 1, none⟩ = some (.slice (some ⟨gb, 0, none⟩) f.b.length pb) := HP7.out.c.cell 1
      rcases or_cases (openR ⟨ee f.a.length, ee f.b.length⟩) with ⟨er2, her2, hPn2, hRn2⟩ | ⟨j2, recs2, ws2, ho2⟩
      · have HN2 := Lib.hid (HEE.out.mono fun e w' h => hPn2 _ e w' h)
        have HRN2 := Lib.hid hRn2
        clear hPn2 hRn2 HEE
        go_upto_region 10 with (go_at_call 17; refine HN2.out.mono ?_; rintro _ w8 ⟨rfl, hb8⟩; have H8 := Lib.hid hb8; clear hb8)
        have HP8 := Lib.hid (HP7.out.over H8.out)
        have HRE := Lib.hid (ROpen_ee (w := w8) (pa := pa) (pb := pb) HP8.out.fa HP8.out.fb (by omega) (by omega) hpa.2 hpb.2)
        have s0 : w8.cell? ⟨C, 0, none⟩ = some (.slice (some ⟨ga, 0, none⟩) f.a.length pa) := HP8.out.c.cell 0
        have s1 : w8.cell? ⟨C, 1, none⟩ = some (.slice (some ⟨gb, 0, none⟩) f.b.length pb) := HP8.out.c.cell 1
        clear t0 t1
        go_upto_region 11 with (go_at_call 19; refine (HRE.out.mono fun e w' h => HRN2.out _ e w' h).mono ?_; rintro _ w9 ⟨rfl, hb9⟩; have H9 := Lib.hid hb9; clear hb9)
        have HP9 := Lib.hid (HP8.out.over H9.out)
        clear s0 s1 HRE
        go_upto_region 13 with (go_at_call 20; refine (num_c er2).mono ?_; rintro _ _ ⟨rfl, rfl⟩)
        have H79 := Lib.hid (Below.then H8.out H9.out)
        have HJ9 := Lib.hid (HJ7.out.over H79.out)
        have HR9 := Lib.hid (HR7.out.below H79.out)
        have HRS := Lib.hid (RSize_any HR9.out HFI.out)
        go_upto_region 17 with (first
          | (go_at_call 22; refine (Size_c HJ9.out.pj).mono ?_; rintro _ _ ⟨rfl, rfl⟩)
          | (go_at_call 23; refine HRS.out.mono ?_; rintro _ w10 ⟨rfl, hb10⟩; have H10 := Lib.hid hb10; have HJ10 := Lib.hid (HJ9.out.over hb10); have HR10 := Lib.hid (HR9.out.below hb10); clear hb10)
          | (go_at_call 24; refine (Generation_c HJ10.out.pj).mono ?_; rintro _ _ ⟨rfl, rfl⟩)
          | (go_at_call 25; refine (RGeneration_c HR10.out).mono ?_; rintro _ _ ⟨rfl, rfl⟩))
        have HBW10 : Hid (Below w.heap.size w w10) := Lib.hid (HP9.out.bw.trans (H10.out.mono HP9.out.bw.size))
        have HB4 : Hid (Below w4.heap.size w4 w10) := Lib.hid (Below.then (Below.then H47.out H79.out) H10.out)
        have q0 : w10.cell? ⟨w.heap.size + 1, 0, none⟩ = some (.int .i64 kd) := (HX4.out.over HB4.out).cell 0
        have q1 : w10.cell? ⟨w.heap.size + 1, 1, none⟩ = some (.slice A n cap) := (HX4.out.over HB4.out).cell 1
        obtain ⟨x, HXA⟩ : ∃ x, Hid (j.append ⟨kd, body⟩ = x) := ⟨_, Lib.hid rfl⟩
        have HAP := Lib.hid (Append_any (w := w10) kd A n cap body HJ10.out.pj HFI.out.len ((HRR.out _ HBW10.out).more HBW10.out.size) (by omega) (HT.out.below HBW10.out))
        rw [HXA.out] at HAP
        go_upto_region 18 with (go_at_call 26; refine HAP.out.mono ?_; rintro _ w11 ⟨va, rfl, hp11, ho11, hc11⟩; obtain ⟨Aa, capa, rfl⟩ := ho11.shapeN; have H11 := Lib.hid (And.intro ho11 hc11); clear hp11 ho11 hc11)
        have HJL : Hid (wp.heap.size ≤ jg ∧ jg < w4.heap.size) := Lib.hid ⟨HJ4.out.jb, HJ4.out.pj.lt⟩
        have HSZ : Hid (w.heap.size ≤ wp.heap.size ∧ w.heap.size ≤ w4.heap.size ∧ w5.heap.size ≤ w10.heap.size ∧ w4.heap.size ≤ w10.heap.size ∧ w10.heap.size ≤ w11.heap.size) := Lib.hid ⟨hsP, HP4.out.bw.size, Nat.le_trans (Nat.le_trans HS57.out H79.out.size) H10.out.size, HB4.out.size, H11.out.2.size⟩
        have HBW11 : Hid (Below w.heap.size w w11) := Lib.hid (HBW10.out.trans (H11.out.2.to_below HBW10.out.size fun k e => by have := HJL.out; have := HSZ.out; omega))
        have HX10 := Lib.hid (HX4.out.over HB4.out)
        have HX11 : Hid (Blk w11 (w.heap.size + 1) 34 #[.int .i64 kd, .slice A n cap]) := Lib.hid (HX10.out.chg H11.out.2 fun e => by
          obtain ⟨s, hBj, _⟩ := HJ10.out.pj.blk
          exact hBj.ne_ HX10.out (by decide) e.symm)
        have p0 : w11.cell? ⟨w.heap.size + 1, 0, none⟩ = some (.int .i64 kd) := HX11.out.cell 0
        have p1 : w11.cell? ⟨w.heap.size + 1, 1, none⟩ = some (.slice A n cap) := HX11.out.cell 1
        have HRA2 := Lib.hid (RAppend_any (w := w11) (F := F) kd A n cap body (HR10.out.chg H11.out.2 fun k _ hk e => by have := HFF.out k hk; have := HJL.out; omega) (fun k hk => by have := HFF.out k hk; have := HSZ.out; omega) HFI.out ((HRR.out _ HBW11.out).more HBW11.out.size) (by omega))
        rw [HXA.out] at HRA2
        clear q0 q1
        go_upto_region 19 with (go_at_call 27; refine HRA2.out.mono ?_; rintro _ w12 ⟨vb, F2, rfl, hp12, ho12, hm12⟩; obtain ⟨Ab, capb, rfl⟩ := ho12.shapeN; have H12 := Lib.hid (And.intro ho12 hm12); clear hp12 ho12 hm12)
        have HW12 : Hid (WsAt w12 Aa x.2.1.length x.2.1) := Lib.hid (H11.out.1.chg H12.out.2.2 fun g hg _ hk => by have := HFF.out g hk; have := HSZ.out; omega).wsN
        have HBW12 : Hid (Below w.heap.size w w12) := Lib.hid (HBW11.out.trans (H12.out.2.2.to_below HBW11.out.size fun k hk => by have := HFF.out k hk; have := HSZ.out; omega))
        have HWY := Lib.hid (writes_yes (c1 := capa) (c2 := capb) HW12.out H12.out.1.wsN (by have := H12.out.1.few; omega))
        clear p0 p1
        go_wp2_with (first
          | (go_at_call 20; refine (num_c _).mono ?_; rintro _ _ ⟨rfl, rfl⟩)
          | (go_at_call 21; refine HWY.out.mono ?_; rintro _ w13 ⟨rfl, hb13⟩; have H13 := Lib.hid hb13; clear hb13))
        go_ret
        exact ⟨rfl, HBW12.out.trans (H13.out.mono HBW12.out.size)⟩
      · rw [ho2] at HEE
        have HN2 := Lib.hid (HEE.out.mono fun e w' h => opened_some h)
        have HO2 := Lib.hid ho2
        clear ho2 HEE
        go_upto_region 10 with (go_at_call 17; refine HN2.out.mono ?_; rintro _ w8 ⟨zg, zl, zw, rfl, hb8⟩; have H8 := Lib.hid hb8; clear hb8)
        have HP8 := Lib.hid (HP7.out.over H8.out)
        have HRE := Lib.hid ((ROpen_ee (w := w8) (pa := pa) (pb := pb) HP8.out.fa HP8.out.fb (by omega) (by omega) hpa.2 hpb.2).mono fun e w' h => ropened_some (HO2.out ▸ h))
        have s0 : w8.cell? ⟨C, 0, none⟩ = some (.slice (some ⟨ga, 0, none⟩) f.a.length pa) := HP8.out.c.cell 0
        have s1 : w8.cell? ⟨C, 1, none⟩ = some (.slice (some ⟨gb, 0, none⟩) f.b.length pb) := HP8.out.c.cell 1
        clear t0 t1
        go_upto_region 11 with (go_at_call 19; refine HRE.out.mono ?_; rintro _ w9 ⟨yg, yl, yw, rfl, hb9⟩; have H9 := Lib.hid hb9; clear hb9)
        have HP9 := Lib.hid (HP8.out.over H9.out)
        clear s0 s1 HRE
        go_upto_region 13 with (go_at_call 20; refine (num_c 0).mono ?_; rintro _ _ ⟨rfl, rfl⟩)
        have H79 := Lib.hid (Below.then H8.out H9.out)
        have HJ9 := Lib.hid (HJ7.out.over H79.out)
        have HR9 := Lib.hid (HR7.out.below H79.out)
        have HRS := Lib.hid (RSize_any HR9.out HFI.out)
        go_upto_region 17 with (first
          | (go_at_call 22; refine (Size_c HJ9.out.pj).mono ?_; rintro _ _ ⟨rfl, rfl⟩)
          | (go_at_call 23; refine HRS.out.mono ?_; rintro _ w10 ⟨rfl, hb10⟩; have H10 := Lib.hid hb10; have HJ10 := Lib.hid (HJ9.out.over hb10); have HR10 := Lib.hid (HR9.out.below hb10); clear hb10)
          | (go_at_call 24; refine (Generation_c HJ10.out.pj).mono ?_; rintro _ _ ⟨rfl, rfl⟩)
          | (go_at_call 25; refine (RGeneration_c HR10.out).mono ?_; rintro _ _ ⟨rfl, rfl⟩))
        have HBW10 : Hid (Below w.heap.size w w10) := Lib.hid (HP9.out.bw.trans (H10.out.mono HP9.out.bw.size))
        have HB4 : Hid (Below w4.heap.size w4 w10) := Lib.hid (Below.then (Below.then H47.out H79.out) H10.out)
        have q0 : w10.cell? ⟨w.heap.size + 1, 0, none⟩ = some (.int .i64 kd) := (HX4.out.over HB4.out).cell 0
        have q1 : w10.cell? ⟨w.heap.size + 1, 1, none⟩ = some (.slice A n cap) := (HX4.out.over HB4.out).cell 1
        obtain ⟨x, HXA⟩ : ∃ x, Hid (j.append ⟨kd, body⟩ = x) := ⟨_, Lib.hid rfl⟩
        have HAP := Lib.hid (Append_any (w := w10) kd A n cap body HJ10.out.pj HFI.out.len ((HRR.out _ HBW10.out).more HBW10.out.size) (by omega) (HT.out.below HBW10.out))
        rw [HXA.out] at HAP
        go_upto_region 18 with (go_at_call 26; refine HAP.out.mono ?_; rintro _ w11 ⟨va, rfl, hp11, ho11, hc11⟩; obtain ⟨Aa, capa, rfl⟩ := ho11.shapeN; have H11 := Lib.hid (And.intro ho11 hc11); clear hp11 ho11 hc11)
        have HJL : Hid (wp.heap.size ≤ jg ∧ jg < w4.heap.size) := Lib.hid ⟨HJ4.out.jb, HJ4.out.pj.lt⟩
        have HSZ : Hid (w.heap.size ≤ wp.heap.size ∧ w.heap.size ≤ w4.heap.size ∧ w5.heap.size ≤ w10.heap.size ∧ w4.heap.size ≤ w10.heap.size ∧ w10.heap.size ≤ w11.heap.size) := Lib.hid ⟨hsP, HP4.out.bw.size, Nat.le_trans (Nat.le_trans HS57.out H79.out.size) H10.out.size, HB4.out.size, H11.out.2.size⟩
        have HBW11 : Hid (Below w.heap.size w w11) := Lib.hid (HBW10.out.trans (H11.out.2.to_below HBW10.out.size fun k e => by have := HJL.out; have := HSZ.out; omega))
        have HX10 := Lib.hid (HX4.out.over HB4.out)
        have HX11 : Hid (Blk w11 (w.heap.size + 1) 34 #[.int .i64 kd, .slice A n cap]) := Lib.hid (HX10.out.chg H11.out.2 fun e => by
          obtain ⟨s, hBj, _⟩ := HJ10.out.pj.blk
          exact hBj.ne_ HX10.out (by decide) e.symm)
        have p0 : w11.cell? ⟨w.heap.size + 1, 0, none⟩ = some (.int .i64 kd) := HX11.out.cell 0
        have p1 : w11.cell? ⟨w.heap.size + 1, 1, none⟩ = some (.slice A n cap) := HX11.out.cell 1
        have HRA2 := Lib.hid (RAppend_any (w := w11) (F := F) kd A n cap body (HR10.out.chg H11.out.2 fun k _ hk e => by have := HFF.out k hk; have := HJL.out; omega) (fun k hk => by have := HFF.out k hk; have := HSZ.out; omega) HFI.out ((HRR.out _ HBW11.out).more HBW11.out.size) (by omega))
        rw [HXA.out] at HRA2
        clear q0 q1
        go_upto_region 19 with (go_at_call 27; refine HRA2.out.mono ?_; rintro _ w12 ⟨vb, F2, rfl, hp12, ho12, hm12⟩; obtain ⟨Ab, capb, rfl⟩ := ho12.shapeN; have H12 := Lib.hid (And.intro ho12 hm12); clear hp12 ho12 hm12)
        have HW12 : Hid (WsAt w12 Aa x.2.1.length x.2.1) := Lib.hid (H11.out.1.chg H12.out.2.2 fun g hg _ hk => by have := HFF.out g hk; have := HSZ.out; omega).wsN
        have HBW12 : Hid (Below w.heap.size w w12) := Lib.hid (HBW11.out.trans (H12.out.2.2.to_below HBW11.out.size fun k hk => by have := HFF.out k hk; have := HSZ.out; omega))
        have HWY := Lib.hid (writes_yes (c1 := capa) (c2 := capb) HW12.out H12.out.1.wsN (by have := H12.out.1.few; omega))
        clear p0 p1
        go_wp2_with (first
          | (go_at_call 20; refine (num_c _).mono ?_; rintro _ _ ⟨rfl, rfl⟩)
          | (go_at_call 21; refine HWY.out.mono ?_; rintro _ w13 ⟨rfl, hb13⟩; have H13 := Lib.hid hb13; clear hb13))
        go_ret
        exact ⟨rfl, HBW12.out.trans (H13.out.mono HBW12.out.size)⟩
theorem JournalOpens_walk (A0 : Option Addr) (n0 k0 : Nat) (x0 : List UInt8) (A1 : Option Addr) (n1 k1 : Nat) (x1 : List UInt8) (kd : Int) (A : Option Addr) (n cap : Nat) (body : List UInt8) (w : World) (p0 : n0 ≤ k0) (q0 : k0 ≤ 140737488351232) (r0 : RdB w w.heap.size A0 n0 x0)
    (p1 : n1 ≤ k1) (q1 : k1 ≤ 140737488351232) (r1 : RdB w w.heap.size A1 n1 x1) (_b : -9223372036854775808 ≤ kd) (_t : kd ≤ 9223372036854775807) (p2 : n ≤ cap) (q2 : cap ≤ 140737488351232) (r2 : RdB w w.heap.size A n body) (ht : Nibs w) :
    Calls Tryd.prog 4 #[.agg #[.slice A0 n0 k0, .slice A1 n1 k1], .agg #[.int .i64 kd, .slice A n cap]] w fun e w' => e = .returned (.bool true) ∧ Below w.heap.size w w' := by
  obtain rfl := r0.lenB
  obtain rfl := r1.lenB
  exact Opens_go A0 A1 k0 k1 ⟨x0, x1⟩ kd A n cap body w r0 r1 (by show x0.length ≤ _; omega) (by show x1.length ≤ _; omega) p0 p1 (by omega) (by omega) r2 p2 (by omega) ht
end Go.Proofs.YtpkdalpjfcopbaaDoor
