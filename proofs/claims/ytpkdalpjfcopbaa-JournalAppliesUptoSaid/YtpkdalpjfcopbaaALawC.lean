/-
  JournalApplies: the law, walked.
-/
import Derived.Test.YtpkdalpjfcopbaaALawB
namespace Go.Proofs.Ytpkdalpjfcopbaa
open Go.RowKit
theorem info_wr : (Try.prog.info? 28).map (fun i => (i.zero, i.size, i.bytes)) = some (some (.agg #[.int .i64 0, .bool false, .slice none 0 0]), 3, 40) := by kernel_rfl
theorem u_wrs : Try.prog.underlying 25 = some (.slice 28) := Try.underlying25
theorem rw_one (r : Rw) : ∀ u ∈ r.cells, u.oneCell' = true := by
  intro u hu
  simp only [Rw.cells, List.mem_cons, List.not_mem_nil, or_false] at hu
  rcases hu with rfl | rfl | rfl <;> rfl
set_option maxRecDepth 100000 in
set_option maxHeartbeats 6400000 in
theorem Applies_go (DA DB : Option Addr) (ca cb : Nat) (f : Fls) (A : Option Addr) (n cap : Nat) (ws : List Wr) (k : Int) (w : World) (h : WsAt w A n ws) (hc : costW ws ≤ 4398046511104) (hxs : ∀ x ∈ ws, x.bs.length ≤ 1048576) (hn : n ≤ 1048576)
    (ha : RdB w w.heap.size DA f.a.length f.a) (hb : RdB w w.heap.size DB f.b.length f.b) (hla : f.a.length ≤ 1048576) (hlb : f.b.length ≤ 1048576) (hk63 : k ≤ 9223372036854775807) :
    Calls Try.prog 3 #[.agg #[.slice DA f.a.length ca, .slice DB f.b.length cb], .slice A n cap, .int .i64 k] w fun e w' => e = .returned (.bool true) ∧ Below w.heap.size w w' := by
  obtain ⟨i0, hi0, hz0, hz1, hz2⟩ := info_parts info_wr
  have H := Lib.hid h
  have HLN : Hid (n = ws.length) := Lib.hid h.len
  have HC := Lib.hid hc
  have HXS := Lib.hid hxs
  have HRA : Hid (∀ W, Below w.heap.size w W → RdB W w.heap.size DA f.a.length f.a) := Lib.hid fun W hW => ha.below hW
  have HRB : Hid (∀ W, Below w.heap.size w W → RdB W w.heap.size DB f.b.length f.b) := Lib.hid fun W hW => hb.below hW
  obtain ⟨w1, hw1⟩ : ∃ w1, w1 = w.alloc (.cells #[.slice DA f.a.length ca, .slice DB f.b.length cb] 24) := ⟨_, rfl⟩
  have hb1 : Below w.heap.size w w1 := by rw [hw1]; exact one_box' w _
  have hX : Blk w1 w.heap.size 24 #[.slice DA f.a.length ca, .slice DB f.b.length cb] := by
    have := Blk.new w 24 #[.slice DA f.a.length ca, .slice DB f.b.length cb]
    rwa [← hw1] at this
  obtain ⟨wd, hwd⟩ : ∃ wd, wd = w1.drew := ⟨_, rfl⟩
  have hbd : Below w1.heap.size w1 wd := by rw [hwd]; exact below_drewN (Below.refl _ _) 1
  have HSB : Hid (∀ W, Below wd.heap.size wd W → W.cell? ⟨w.heap.size, 0, none⟩ = some (.slice DA f.a.length ca) ∧ W.cell? ⟨w.heap.size, 1, none⟩ = some (.slice DB f.b.length cb)) := Lib.hid fun W hW => ⟨((hX.over hbd).over hW).cell 0, ((hX.over hbd).over hW).cell 1⟩
  have hbwd := hb1.trans (hbd.mono hb1.size)
  have HP := Lib.hid (⟨hbwd, Below.refl _ _, fun v p e => by (cases e), fun v p e => by (cases e), fun v e => by (cases e), fun v p g q e => by (cases e)⟩ : P1 w wd wd f none none none)
  have HXD := Lib.hid (hX.over hbd)
  have hsD : w.heap.size ≤ wd.heap.size := hbwd.size
  have HW1 := Lib.hid hw1
  have HWD := Lib.hid hwd
  clear h hc hxs ha hb hw1 hb1 hX hwd hbd hbwd
  go_enter Try.func3, Try.ntmps3
  go_upto_region 1 with fail
  rw [← HW1.out]
  go_cut [7] from 15 to 133 (fun d wc => ∃ C ga gb pa pb, d = .pointer (some ⟨C, 0, none⟩) ∧ Hid (Pre w DA DB ca cb f C ga gb pa pb wc))
  case first =>
    refine wp_region_held_drew (S := fun W => W.cell? ⟨w.heap.size, 0, none⟩ = some (.slice DA f.a.length ca) ∧ W.cell? ⟨w.heap.size, 1, none⟩ = some (.slice DB f.b.length cb)) (by kernel_rfl) (by rw [← HWD.out]; exact HSB.out _ (Below.refl _ _)) (fun hsw => ?_)
    rw [← HWD.out] at hsw ⊢
    refine wpAnyH_take (i := 0) (oi := ?oi0a) (v := ?v0a) ?hi0a (by kernel_rfl) (by kernel_rfl) (by kernel_rfl) ?hq0a ?hy0a (by assumption) ?rest0a
    case hi0a => (simp only [List.getElem?_toArray, List.getElem?_cons_zero]; rfl)
    case hy0a => (refine Or.inl ⟨by rfl, ?_⟩; intro w hSw; (try dsimp only at hSw); go_simp; try with_reducible rfl)
    case hq0a => exact fun _ _ _ h => h
    try simp only [Act.put, List.setIfInBounds_toArray, List.set_cons_zero, List.set_cons_succ]
    refine wpAnyH_take (i := 1) (oi := ?oi1a) (v := ?v1a) ?hi1a (by kernel_rfl) (by kernel_rfl) (by kernel_rfl) ?hq1a ?hy1a (by assumption) ?rest1a
    case hi1a => (simp only [List.getElem?_toArray, List.getElem?_cons_zero, List.getElem?_cons_succ]; rfl)
    case hy1a => (refine Or.inl ⟨by rfl, ?_⟩; intro w hSw; (try dsimp only at hSw); go_simp; try with_reducible rfl)
    case hq1a => exact fun _ _ _ h => h
    try simp only [Act.put, List.setIfInBounds_toArray, List.set_cons_zero, List.set_cons_succ]
    refine wpAnyH_take (i := 3) (oi := ?oi3a) (v := ?v3a) ?hi3a (by kernel_rfl) (by kernel_rfl) (by kernel_rfl) ?hq3a ?hy3a (by assumption) ?rest3a
    case hi3a => (simp only [List.getElem?_toArray, List.getElem?_cons_zero, List.getElem?_cons_succ]; rfl)
    case hy3a => (refine Or.inl ⟨by rfl, ?_⟩; intro w hSw; (try dsimp only at hSw); go_simp; try with_reducible rfl)
    case hq3a => exact fun _ _ _ h => h
    try simp only [Act.put, List.setIfInBounds_toArray, List.set_cons_zero, List.set_cons_succ]
    refine wpAnyH_take (i := 4) (oi := ?oi4a) (v := ?v4a) ?hi4a (by kernel_rfl) (by kernel_rfl) (by kernel_rfl) ?hq4a ?hy4a (by assumption) ?rest4a
    case hi4a => (simp only [List.getElem?_toArray, List.getElem?_cons_zero, List.getElem?_cons_succ]; rfl)
    case hy4a => (refine Or.inl ⟨by rfl, ?_⟩; intro w hSw; (try dsimp only at hSw); go_simp; try with_reducible rfl)
    case hq4a => exact fun _ _ _ h => h
    try simp only [Act.put, List.setIfInBounds_toArray, List.set_cons_zero, List.set_cons_succ]
    refine wpAnyH_ready (rs := [2, 7]) (by kernel_rfl) (by simp) ?_
    refine AllReadyH.cons (o := ?o2p1) ?ho2p1 (fun K hK => ?st2p1) ?mo2p1
    case ho2p1 => (simp only [List.getElem?_toArray, List.getElem?_cons_zero, List.getElem?_cons_succ]; rfl)
    · skip
      have hbW := HP.out.bw.trans (HP.out.b0.mono hsD)
      have HSP := Lib.hid (spare_sp DA ca f.a wd ((HRA.out _ hbW).more hbW.size) (by omega))
      clear hbW
      go_simp
      refine HSP.out.mono ?_
      rintro _ wp1 ⟨gp1, cp1, rfl, hgp1, hsp1, hbp1⟩
      have Hp1 := Lib.hid (HP.out.spA hbp1 hgp1 hsp1)
      clear hgp1 hsp1 hbp1 HSP
      go_simp
      refine hK.out _ _ (HSB.out _ Hp1.out.b0) (fun _ => ?_)
      clear hK K
      try simp only [Act.put, List.setIfInBounds_toArray, List.set_cons_zero, List.set_cons_succ]
      refine wpAnyH_ready (rs := [5, 7]) (by kernel_rfl) (by simp) ?_
      refine AllReadyH.cons (o := ?o5p2) ?ho5p2 (fun K hK => ?st5p2) ?mo5p2
      case ho5p2 => (simp only [List.getElem?_toArray, List.getElem?_cons_zero, List.getElem?_cons_succ]; rfl)
      · skip
        have hbW := Hp1.out.bw.trans (Hp1.out.b0.mono hsD)
        have HSP := Lib.hid (spare_sp DB cb f.b wp1 ((HRB.out _ hbW).more hbW.size) (by omega))
        clear hbW
        go_simp
        refine HSP.out.mono ?_
        rintro _ wp2 ⟨gp2, cp2, rfl, hgp2, hsp2, hbp2⟩
        have Hp2 := Lib.hid (Hp1.out.spB hbp2 hgp2 hsp2)
        clear hgp2 hsp2 hbp2 HSP
        go_simp
        refine hK.out _ _ (HSB.out _ Hp2.out.b0) (fun _ => ?_)
        clear hK K
        try simp only [Act.put, List.setIfInBounds_toArray, List.set_cons_zero, List.set_cons_succ]
        refine wpAnyH_take (i := 6) (oi := ?oi6p3) (v := ?v6p3) ?hi6p3 (by kernel_rfl) (by kernel_rfl) (by kernel_rfl) ?hq6p3 ?hy6p3 (by assumption) ?rest6p3
        case hi6p3 => (simp only [List.getElem?_toArray, List.getElem?_cons_zero, List.getElem?_cons_succ]; rfl)
        case hy6p3 => (refine Or.inl ⟨by rfl, ?_⟩; intro w hSw; (try dsimp only at hSw); go_simp; try with_reducible rfl)
        case hq6p3 => exact fun _ _ _ h => h
        try simp only [Act.put, List.setIfInBounds_toArray, List.set_cons_zero, List.set_cons_succ]
        refine wpAnyH_ready (rs := [7]) (by kernel_rfl) (by simp) ?_
        refine AllReadyH.cons (o := ?o7p4) ?ho7p4 (fun K hK => ?st7p4) ?mo7p4
        case ho7p4 => (simp only [List.getElem?_toArray, List.getElem?_cons_zero, List.getElem?_cons_succ]; rfl)
        · skip
          have Hp4 := Lib.hid Hp2.out.box
          obtain ⟨wp4, hwp4⟩ : ∃ w', w' = wp2.alloc (.cells #[.slice none 0 0, .slice none 0 0] 24) := ⟨_, rfl⟩
          rw [← hwp4] at Hp4
          go_simp
          rw [← hwp4]
          clear hwp4
          refine hK.out _ _ (HSB.out _ Hp4.out.b0) (fun _ => ?_)
          clear hK K
          try simp only [Act.put, List.setIfInBounds_toArray, List.set_cons_zero, List.set_cons_succ]
          refine wpAnyH_ready (rs := [8]) (by kernel_rfl) (by simp) ?_
          refine AllReadyH.cons (o := ?o8p5) ?ho8p5 (fun K hK => ?st8p5) ?mo8p5
          case ho8p5 => (simp only [List.getElem?_toArray, List.getElem?_cons_zero, List.getElem?_cons_succ]; rfl)
          · skip
            obtain ⟨hBD, _⟩ := Hp4.out.od _ rfl
            have c0 := hBD.cell 0
            have c1 := hBD.cell 1
            have q0 := hBD.frozen 0
            have q1 := hBD.frozen 1
            have HFI := Lib.hid (Hp4.out.fin HXD.out)
            have hS := And.intro (HFI.out.x0.cell 0) (HFI.out.x0.cell 1)
            clear hBD
            go_simp
            refine hK.out _ _ hS (fun _ => ?_)
            clear hK K
            refine wpAnyH_done (by kernel_rfl) ?_ _
            go_wp2_with fail
            go_meet
            exact ⟨_, _, _, _, _, rfl, HFI⟩
          exact AllReadyH.nil
        exact AllReadyH.nil
      refine AllReadyH.cons (o := ?o7p6) ?ho7p6 (fun K hK => ?st7p6) ?mo7p6
      case ho7p6 => (simp only [List.getElem?_toArray, List.getElem?_cons_zero, List.getElem?_cons_succ]; rfl)
      · skip
        have Hp6 := Lib.hid Hp1.out.box
        obtain ⟨wp6, hwp6⟩ : ∃ w', w' = wp1.alloc (.cells #[.slice none 0 0, .slice none 0 0] 24) := ⟨_, rfl⟩
        rw [← hwp6] at Hp6
        go_simp
        rw [← hwp6]
        clear hwp6
        refine hK.out _ _ (HSB.out _ Hp6.out.b0) (fun _ => ?_)
        clear hK K
        try simp only [Act.put, List.setIfInBounds_toArray, List.set_cons_zero, List.set_cons_succ]
        refine wpAnyH_ready (rs := [5]) (by kernel_rfl) (by simp) ?_
        refine AllReadyH.cons (o := ?o5p7) ?ho5p7 (fun K hK => ?st5p7) ?mo5p7
        case ho5p7 => (simp only [List.getElem?_toArray, List.getElem?_cons_zero, List.getElem?_cons_succ]; rfl)
        · skip
          have hbW := Hp6.out.bw.trans (Hp6.out.b0.mono hsD)
          have HSP := Lib.hid (spare_sp DB cb f.b wp6 ((HRB.out _ hbW).more hbW.size) (by omega))
          clear hbW
          go_simp
          refine HSP.out.mono ?_
          rintro _ wp7 ⟨gp7, cp7, rfl, hgp7, hsp7, hbp7⟩
          have Hp7 := Lib.hid (Hp6.out.spB hbp7 hgp7 hsp7)
          clear hgp7 hsp7 hbp7 HSP
          go_simp
          refine hK.out _ _ (HSB.out _ Hp7.out.b0) (fun _ => ?_)
          clear hK K
          try simp only [Act.put, List.setIfInBounds_toArray, List.set_cons_zero, List.set_cons_succ]
          refine wpAnyH_take (i := 6) (oi := ?oi6p8) (v := ?v6p8) ?hi6p8 (by kernel_rfl) (by kernel_rfl) (by kernel_rfl) ?hq6p8 ?hy6p8 (by assumption) ?rest6p8
          case hi6p8 => (simp only [List.getElem?_toArray, List.getElem?_cons_zero, List.getElem?_cons_succ]; rfl)
          case hy6p8 => (refine Or.inl ⟨by rfl, ?_⟩; intro w hSw; (try dsimp only at hSw); go_simp; try with_reducible rfl)
          case hq6p8 => exact fun _ _ _ h => h
          try simp only [Act.put, List.setIfInBounds_toArray, List.set_cons_zero, List.set_cons_succ]
          refine wpAnyH_ready (rs := [8]) (by kernel_rfl) (by simp) ?_
          refine AllReadyH.cons (o := ?o8p9) ?ho8p9 (fun K hK => ?st8p9) ?mo8p9
          case ho8p9 => (simp only [List.getElem?_toArray, List.getElem?_cons_zero, List.getElem?_cons_succ]; rfl)
          · skip
            obtain ⟨hBD, _⟩ := Hp7.out.od _ rfl
            have c0 := hBD.cell 0
            have c1 := hBD.cell 1
            have q0 := hBD.frozen 0
            have q1 := hBD.frozen 1
            have HFI := Lib.hid (Hp7.out.fin HXD.out)
            have hS := And.intro (HFI.out.x0.cell 0) (HFI.out.x0.cell 1)
            clear hBD
            go_simp
            refine hK.out _ _ hS (fun _ => ?_)
            clear hK K
            refine wpAnyH_done (by kernel_rfl) ?_ _
            go_wp2_with fail
            go_meet
            exact ⟨_, _, _, _, _, rfl, HFI⟩
          exact AllReadyH.nil
        exact AllReadyH.nil
      exact AllReadyH.nil
    refine AllReadyH.cons (o := ?o7p10) ?ho7p10 (fun K hK => ?st7p10) ?mo7p10
    case ho7p10 => (simp only [List.getElem?_toArray, List.getElem?_cons_zero, List.getElem?_cons_succ]; rfl)
    · skip
      have Hp10 := Lib.hid HP.out.box
      obtain ⟨wp10, hwp10⟩ : ∃ w', w' = wd.alloc (.cells #[.slice none 0 0, .slice none 0 0] 24) := ⟨_, rfl⟩
      rw [← hwp10] at Hp10
      go_simp
      rw [← hwp10]
      clear hwp10
      refine hK.out _ _ (HSB.out _ Hp10.out.b0) (fun _ => ?_)
      clear hK K
      try simp only [Act.put, List.setIfInBounds_toArray, List.set_cons_zero, List.set_cons_succ]
      refine wpAnyH_ready (rs := [2]) (by kernel_rfl) (by simp) ?_
      refine AllReadyH.cons (o := ?o2p11) ?ho2p11 (fun K hK => ?st2p11) ?mo2p11
      case ho2p11 => (simp only [List.getElem?_toArray, List.getElem?_cons_zero, List.getElem?_cons_succ]; rfl)
      · skip
        have hbW := Hp10.out.bw.trans (Hp10.out.b0.mono hsD)
        have HSP := Lib.hid (spare_sp DA ca f.a wp10 ((HRA.out _ hbW).more hbW.size) (by omega))
        clear hbW
        go_simp
        refine HSP.out.mono ?_
        rintro _ wp11 ⟨gp11, cp11, rfl, hgp11, hsp11, hbp11⟩
        have Hp11 := Lib.hid (Hp10.out.spA hbp11 hgp11 hsp11)
        clear hgp11 hsp11 hbp11 HSP
        go_simp
        refine hK.out _ _ (HSB.out _ Hp11.out.b0) (fun _ => ?_)
        clear hK K
        try simp only [Act.put, List.setIfInBounds_toArray, List.set_cons_zero, List.set_cons_succ]
        refine wpAnyH_ready (rs := [5]) (by kernel_rfl) (by simp) ?_
        refine AllReadyH.cons (o := ?o5p12) ?ho5p12 (fun K hK => ?st5p12) ?mo5p12
        case ho5p12 => (simp only [List.getElem?_toArray, List.getElem?_cons_zero, List.getElem?_cons_succ]; rfl)
        · skip
          have hbW := Hp11.out.bw.trans (Hp11.out.b0.mono hsD)
          have HSP := Lib.hid (spare_sp DB cb f.b wp11 ((HRB.out _ hbW).more hbW.size) (by omega))
          clear hbW
          go_simp
          refine HSP.out.mono ?_
          rintro _ wp12 ⟨gp12, cp12, rfl, hgp12, hsp12, hbp12⟩
          have Hp12 := Lib.hid (Hp11.out.spB hbp12 hgp12 hsp12)
          clear hgp12 hsp12 hbp12 HSP
          go_simp
          refine hK.out _ _ (HSB.out _ Hp12.out.b0) (fun _ => ?_)
          clear hK K
          try simp only [Act.put, List.setIfInBounds_toArray, List.set_cons_zero, List.set_cons_succ]
          refine wpAnyH_take (i := 6) (oi := ?oi6p13) (v := ?v6p13) ?hi6p13 (by kernel_rfl) (by kernel_rfl) (by kernel_rfl) ?hq6p13 ?hy6p13 (by assumption) ?rest6p13
          case hi6p13 => (simp only [List.getElem?_toArray, List.getElem?_cons_zero, List.getElem?_cons_succ]; rfl)
          case hy6p13 => (refine Or.inl ⟨by rfl, ?_⟩; intro w hSw; (try dsimp only at hSw); go_simp; try with_reducible rfl)
          case hq6p13 => exact fun _ _ _ h => h
          try simp only [Act.put, List.setIfInBounds_toArray, List.set_cons_zero, List.set_cons_succ]
          refine wpAnyH_ready (rs := [8]) (by kernel_rfl) (by simp) ?_
          refine AllReadyH.cons (o := ?o8p14) ?ho8p14 (fun K hK => ?st8p14) ?mo8p14
          case ho8p14 => (simp only [List.getElem?_toArray, List.getElem?_cons_zero, List.getElem?_cons_succ]; rfl)
          · skip
            obtain ⟨hBD, _⟩ := Hp12.out.od _ rfl
            have c0 := hBD.cell 0
            have c1 := hBD.cell 1
            have q0 := hBD.frozen 0
            have q1 := hBD.frozen 1
            have HFI := Lib.hid (Hp12.out.fin HXD.out)
            have hS := And.intro (HFI.out.x0.cell 0) (HFI.out.x0.cell 1)
            clear hBD
            go_simp
            refine hK.out _ _ hS (fun _ => ?_)
            clear hK K
            refine wpAnyH_done (by kernel_rfl) ?_ _
            go_wp2_with fail
            go_meet
            exact ⟨_, _, _, _, _, rfl, HFI⟩
          exact AllReadyH.nil
        exact AllReadyH.nil
      exact AllReadyH.nil
    exact AllReadyH.nil
  case rest =>
    obtain ⟨C, ga, gb, pa, pb, rfl, HPR⟩ := hcut
    obtain ⟨wp, HWY⟩ : ∃ wp, Hid (wc = wp) := ⟨_, Lib.hid rfl⟩
    rw [HWY.out] at HPR ⊢
    clear HWY HW1 HWD HSB HP HXD hsD
    have HROW0 : Hid (wp.ownsRow wp.heap.size 28 3 (.slice none 0 0) 0 (rowsW [])) := Lib.hid ⟨by simp [rowsW], .inl ⟨rfl, rfl⟩⟩
    have hsP : w.heap.size ≤ wp.heap.size := HPR.out.bw.size
    have HGP : Hid (ga < wp.heap.size ∧ gb < wp.heap.size) := Lib.hid ⟨by obtain ⟨_, hB⟩ := HPR.out.sa.blk; exact hB.lt, by obtain ⟨_, hB⟩ := HPR.out.sb.blk; exact hB.lt⟩
    go_wp2_with fail
    go_loopw [8, 9] (fun v i wr => ∃ QL : List Rw, QL.length ≤ n ∧ i = .int .i64 (QL.length : Int) ∧ Hid (QL.map Rw.x = ws.take QL.length) ∧ Hid (RowsU wp.heap.size QL 0 wr) ∧ Hid (Pre w DA DB ca cb f C ga gb pa pb wr) ∧ Hid (wr.ownsRow wp.heap.size 28 3 v QL.length (rowsW QL)) ∧ Hid (wp.heap.size ≤ wr.heap.size)) (fun _ i _ => n - (intOf i).toNat)
    case atStart => exact ⟨[], by simp, rfl, Lib.hid (by simp), Lib.hid RowsU.nil, HPR, HROW0, Lib.hid (Nat.le_refl _)⟩
    case round =>
      clear HPR HROW0
      obtain ⟨QL, hKn, rfl, HKX, HRU, HPR, HOW, HSZ⟩ := hrel
      by_cases hlt : QL.length < n
      · have hI : (QL.length : Int) < (n : Int) := by omega
        obtain ⟨x, hx⟩ : ∃ x, ws[QL.length]? = some x := ⟨ws[QL.length]'(by rw [← HLN.out]; exact hlt), List.getElem?_eq_getElem _⟩
        obtain ⟨gq, o, bA, bc, rfl, hgq, c0, c1, c2, hr, _⟩ := H.out.at_ QL.length x hx
        have hbw := HPR.out.bw
        have HCE : Hid (∀ W, Below w.heap.size w W → W.cell? ⟨gq, o + QL.length * 3, none⟩ = some (.int .i64 x.file) ∧ W.cell? ⟨gq, o + QL.length * 3 + 1, none⟩ = some (.bool x.start) ∧ W.cell? ⟨gq, o + QL.length * 3 + 2, none⟩ = some (.slice bA x.bs.length bc)) := Lib.hid fun W hW =>
          ⟨(hW.cell (p := ⟨gq, o + QL.length * 3, none⟩) hgq).trans c0, (hW.cell (p := ⟨gq, o + QL.length * 3 + 1, none⟩) hgq).trans c1, (hW.cell (p := ⟨gq, o + QL.length * 3 + 2, none⟩) hgq).trans c2⟩
        obtain ⟨wd, hwd⟩ : ∃ wd, wd = wr.drew := ⟨_, rfl⟩
        have hbd : Below wr.heap.size wr wd := by rw [hwd]; exact below_drewN (Below.refl _ _) 1
        have hPd := HPR.out.over hbd
        have HS0 := Lib.hid (HCE.out wd hPd.bw)
        have HSP := Lib.hid (spare_sp bA bc x.bs wd ((hr.below hPd.bw).more hPd.bw.size) (by have := HXS.out x (List.mem_of_getElem? hx); omega))
        have HPD := Lib.hid hPd
        have HRD := Lib.hid (HRU.out.over hbd)
        have HOD := Lib.hid (own_over HOW.out hbd)
        have HSD : Hid (wp.heap.size ≤ wd.heap.size) := Lib.hid (Nat.le_trans HSZ.out hbd.size)
        have HWD := Lib.hid hwd
        have HKX2 : Hid (∀ q : Rw, q.x = x → (QL ++ [q]).map Rw.x = ws.take (QL ++ [q]).length) := Lib.hid fun q hq => by
          rw [List.map_append, HKX.out, List.length_append, List.length_singleton, List.take_add_one, hx, List.map_singleton, hq]
          rfl
        clear c0 c1 c2 hr hx hbw hwd hbd hPd
        go_upto_region 6 with fail
        refine wp_region_held_drew (S := fun W => W.cell? ⟨gq, o + QL.length * 3, none⟩ = some (.int .i64 x.file) ∧ W.cell? ⟨gq, o + QL.length * 3 + 1, none⟩ = some (.bool x.start) ∧ W.cell? ⟨gq, o + QL.length * 3 + 2, none⟩ = some (.slice bA x.bs.length bc)) (by kernel_rfl) (by rw [← HWD.out]; exact HS0.out) (fun hsw => ?_)
        rw [← HWD.out] at hsw ⊢
        refine wpAnyH_take (i := 0) (oi := ?oi0b) (v := ?v0b) ?hi0b (by kernel_rfl) (by kernel_rfl) (by kernel_rfl) ?hq0b ?hy0b (by assumption) ?rest0b
        case hi0b => (simp only [List.getElem?_toArray, List.getElem?_cons_zero]; rfl)
        case hy0b => (refine Or.inl ⟨by rfl, ?_⟩; intro w hSw; (try dsimp only at hSw); go_simp; try with_reducible rfl)
        case hq0b => exact fun _ _ _ h => h
        try simp only [Act.put, List.setIfInBounds_toArray, List.set_cons_zero, List.set_cons_succ]
        refine wpAnyH_take (i := 1) (oi := ?oi1b) (v := ?v1b) ?hi1b (by kernel_rfl) (by kernel_rfl) (by kernel_rfl) ?hq1b ?hy1b (by assumption) ?rest1b
        case hi1b => (simp only [List.getElem?_toArray, List.getElem?_cons_zero, List.getElem?_cons_succ]; rfl)
        case hy1b => (refine Or.inl ⟨by rfl, ?_⟩; intro w hSw; (try dsimp only at hSw); go_simp; try with_reducible rfl)
        case hq1b => exact fun _ _ _ h => h
        try simp only [Act.put, List.setIfInBounds_toArray, List.set_cons_zero, List.set_cons_succ]
        refine wpAnyH_take (i := 2) (oi := ?oi2b) (v := ?v2b) ?hi2b (by kernel_rfl) (by kernel_rfl) (by kernel_rfl) ?hq2b ?hy2b (by assumption) ?rest2b
        case hi2b => (simp only [List.getElem?_toArray, List.getElem?_cons_zero, List.getElem?_cons_succ]; rfl)
        case hy2b => (refine Or.inl ⟨by rfl, ?_⟩; intro w hSw; (try dsimp only at hSw); go_simp; try with_reducible rfl)
        case hq2b => exact fun _ _ _ h => h
        try simp only [Act.put, List.setIfInBounds_toArray, List.set_cons_zero, List.set_cons_succ]
        refine wpAnyH_take (i := 3) (oi := ?oi3b) (v := ?v3b) ?hi3b (by kernel_rfl) (by kernel_rfl) (by kernel_rfl) ?hq3b ?hy3b (by assumption) ?rest3b
        case hi3b => (simp only [List.getElem?_toArray, List.getElem?_cons_zero, List.getElem?_cons_succ]; rfl)
        case hy3b => (refine Or.inl ⟨by rfl, ?_⟩; intro w hSw; (try dsimp only at hSw); go_simp; try with_reducible rfl)
        case hq3b => exact fun _ _ _ h => h
        try simp only [Act.put, List.setIfInBounds_toArray, List.set_cons_zero, List.set_cons_succ]
        refine wpAnyH_take (i := 4) (oi := ?oi4b) (v := ?v4b) ?hi4b (by kernel_rfl) (by kernel_rfl) (by kernel_rfl) ?hq4b ?hy4b (by assumption) ?rest4b
        case hi4b => (simp only [List.getElem?_toArray, List.getElem?_cons_zero, List.getElem?_cons_succ]; rfl)
        case hy4b => (refine Or.inl ⟨by rfl, ?_⟩; intro w hSw; (try dsimp only at hSw); go_simp; try with_reducible rfl)
        case hq4b => exact fun _ _ _ h => h
        try simp only [Act.put, List.setIfInBounds_toArray, List.set_cons_zero, List.set_cons_succ]
        refine wpAnyH_take (i := 5) (oi := ?oi5b) (v := ?v5b) ?hi5b (by kernel_rfl) (by kernel_rfl) (by kernel_rfl) ?hq5b ?hy5b (by assumption) ?rest5b
        case hi5b => (simp only [List.getElem?_toArray, List.getElem?_cons_zero, List.getElem?_cons_succ]; rfl)
        case hy5b => (refine Or.inl ⟨by rfl, ?_⟩; intro w hSw; (try dsimp only at hSw); go_simp; try with_reducible rfl)
        case hq5b => exact fun _ _ _ h => h
        try simp only [Act.put, List.setIfInBounds_toArray, List.set_cons_zero, List.set_cons_succ]
        refine wpAnyH_take (i := 6) (oi := ?oi6b) (v := ?v6b) ?hi6b (by kernel_rfl) (by kernel_rfl) (by kernel_rfl) ?hq6b ?hy6b (by assumption) ?rest6b
        case hi6b => (simp only [List.getElem?_toArray, List.getElem?_cons_zero, List.getElem?_cons_succ]; rfl)
        case hy6b => (refine Or.inl ⟨by rfl, ?_⟩; intro w hSw; (try dsimp only at hSw); go_simp; try with_reducible rfl)
        case hq6b => exact fun _ _ _ h => h
        try simp only [Act.put, List.setIfInBounds_toArray, List.set_cons_zero, List.set_cons_succ]
        refine wpAnyH_take (i := 7) (oi := ?oi7b) (v := ?v7b) ?hi7b (by kernel_rfl) (by kernel_rfl) (by kernel_rfl) ?hq7b ?hy7b (by assumption) ?rest7b
        case hi7b => (simp only [List.getElem?_toArray, List.getElem?_cons_zero, List.getElem?_cons_succ]; rfl)
        case hy7b => (refine Or.inl ⟨by rfl, ?_⟩; intro w hSw; (try dsimp only at hSw); go_simp; try with_reducible rfl)
        case hq7b => exact fun _ _ _ h => h
        try simp only [Act.put, List.setIfInBounds_toArray, List.set_cons_zero, List.set_cons_succ]
        refine wpAnyH_take (i := 8) (oi := ?oi8b) (v := ?v8b) ?hi8b (by kernel_rfl) (by kernel_rfl) (by kernel_rfl) ?hq8b ?hy8b (by assumption) ?rest8b
        case hi8b => (simp only [List.getElem?_toArray, List.getElem?_cons_zero, List.getElem?_cons_succ]; rfl)
        case hy8b => (refine Or.inl ⟨by rfl, ?_⟩; intro w hSw; (try dsimp only at hSw); go_simp; try with_reducible rfl)
        case hq8b => exact fun _ _ _ h => h
        try simp only [Act.put, List.setIfInBounds_toArray, List.set_cons_zero, List.set_cons_succ]
        refine wpAnyH_take (i := 9) (oi := ?oi9b) (v := ?v9b) ?hi9b (by kernel_rfl) (by kernel_rfl) (by kernel_rfl) ?hq9b ?hy9b (by assumption) ?rest9b
        case hi9b => (simp only [List.getElem?_toArray, List.getElem?_cons_zero, List.getElem?_cons_succ]; rfl)
        case hy9b => (refine Or.inl ⟨by rfl, ?_⟩; intro w hSw; (try dsimp only at hSw); go_simp; try with_reducible rfl)
        case hq9b => exact fun _ _ _ h => h
        try simp only [Act.put, List.setIfInBounds_toArray, List.set_cons_zero, List.set_cons_succ]
        refine wpAnyH_take (i := 10) (oi := ?oi10b) (v := ?v10b) ?hi10b (by kernel_rfl) (by kernel_rfl) (by kernel_rfl) ?hq10b ?hy10b (by assumption) ?rest10b
        case hi10b => (simp only [List.getElem?_toArray, List.getElem?_cons_zero, List.getElem?_cons_succ]; rfl)
        case hy10b => (refine Or.inl ⟨by rfl, ?_⟩; intro w hSw; (try dsimp only at hSw); go_simp; try with_reducible rfl)
        case hq10b => exact fun _ _ _ h => h
        try simp only [Act.put, List.setIfInBounds_toArray, List.set_cons_zero, List.set_cons_succ]
        refine wpAnyH_take (i := 11) (oi := ?oi11b) (v := ?v11b) ?hi11b (by kernel_rfl) (by kernel_rfl) (by kernel_rfl) ?hq11b ?hy11b (by assumption) ?rest11b
        case hi11b => (simp only [List.getElem?_toArray, List.getElem?_cons_zero, List.getElem?_cons_succ]; rfl)
        case hy11b => (refine Or.inl ⟨by rfl, ?_⟩; intro w hSw; (try dsimp only at hSw); go_simp; try with_reducible rfl)
        case hq11b => exact fun _ _ _ h => h
        try simp only [Act.put, List.setIfInBounds_toArray, List.set_cons_zero, List.set_cons_succ]
        refine wpAnyH_take (i := 12) (oi := ?oi12b) (v := ?v12b) ?hi12b (by kernel_rfl) (by kernel_rfl) (by kernel_rfl) ?hq12b ?hy12b (by assumption) ?rest12b
        case hi12b => (simp only [List.getElem?_toArray, List.getElem?_cons_zero, List.getElem?_cons_succ]; rfl)
        case hy12b => (refine Or.inl ⟨by rfl, ?_⟩; intro w hSw; (try dsimp only at hSw); go_simp; try with_reducible rfl)
        case hq12b => exact fun _ _ _ h => h
        try simp only [Act.put, List.setIfInBounds_toArray, List.set_cons_zero, List.set_cons_succ]
        refine wpAnyH_take (i := 13) (oi := ?oi13b) (v := ?v13b) ?hi13b (by kernel_rfl) (by kernel_rfl) (by kernel_rfl) ?hq13b ?hy13b (by assumption) ?rest13b
        case hi13b => (simp only [List.getElem?_toArray, List.getElem?_cons_zero, List.getElem?_cons_succ]; rfl)
        case hy13b => (refine Or.inl ⟨by rfl, ?_⟩; intro w hSw; (try dsimp only at hSw); go_simp; try with_reducible rfl)
        case hq13b => exact fun _ _ _ h => h
        try simp only [Act.put, List.setIfInBounds_toArray, List.set_cons_zero, List.set_cons_succ]
        refine wpAnyH_take (i := 14) (oi := ?oi14b) (v := ?v14b) ?hi14b (by kernel_rfl) (by kernel_rfl) (by kernel_rfl) ?hq14b ?hy14b (by assumption) ?rest14b
        case hi14b => (simp only [List.getElem?_toArray, List.getElem?_cons_zero, List.getElem?_cons_succ]; rfl)
        case hy14b => (refine Or.inl ⟨by rfl, ?_⟩; intro w hSw; (try dsimp only at hSw); go_simp; try with_reducible rfl)
        case hq14b => exact fun _ _ _ h => h
        try simp only [Act.put, List.setIfInBounds_toArray, List.set_cons_zero, List.set_cons_succ]
        refine wpAnyH_take (i := 15) (oi := ?oi15b) (v := ?v15b) ?hi15b (by kernel_rfl) (by kernel_rfl) (by kernel_rfl) ?hq15b ?hy15b (by assumption) ?rest15b
        case hi15b => (simp only [List.getElem?_toArray, List.getElem?_cons_zero, List.getElem?_cons_succ]; rfl)
        case hy15b => (refine Or.inl ⟨by rfl, ?_⟩; intro w hSw; (try dsimp only at hSw); go_simp; try with_reducible rfl)
        case hq15b => exact fun _ _ _ h => h
        try simp only [Act.put, List.setIfInBounds_toArray, List.set_cons_zero, List.set_cons_succ]
        refine wpAnyH_ready (rs := [16]) (by kernel_rfl) (by simp) ?_
        refine AllReadyH.cons (o := ?o16b) ?ho16b (fun K hK => ?st16b) ?mo16b
        case ho16b => (simp only [List.getElem?_toArray, List.getElem?_cons_zero, List.getElem?_cons_succ]; rfl)
        · skip
          go_simp
          refine HSP.out.mono ?_
          rintro _ w4 ⟨g4, p4, rfl, hg4, hs4, hb4⟩
          have hR4 := HRD.out.snoc hb4 (q := ⟨x, g4, p4⟩) hs4 hg4 HSD.out
          have hP4 := HPD.out.over hb4
          have HO4 := Lib.hid (own_over HOD.out hb4)
          have HS4 := Lib.hid (HCE.out w4 hP4.bw)
          have hs4P : wp.heap.size ≤ w4.heap.size := Nat.le_trans HSD.out hb4.size
          have HR4 := Lib.hid hR4
          have HP4 := Lib.hid hP4
          have HS5 : Hid (∀ o', _) := Lib.hid fun o' => HCE.out (w4.alloc o') (hP4.bw.trans ((one_box' w4 o').mono hP4.bw.size))
          clear hg4 hs4 hb4 hR4 hP4
          go_simp
          refine hK.out _ _ HS4.out (fun _ => ?_)
          clear hK K
          try simp only [Act.put, List.setIfInBounds_toArray, List.set_cons_zero, List.set_cons_succ]
          refine wpAnyH_take (i := 17) (oi := ?oi17b) (v := ?v17b) ?hi17b (by kernel_rfl) (by kernel_rfl) (by kernel_rfl) ?hq17b ?hy17b (by assumption) ?rest17b
          case hi17b => (simp only [List.getElem?_toArray, List.getElem?_cons_zero, List.getElem?_cons_succ]; rfl)
          case hy17b => (refine Or.inl ⟨by rfl, ?_⟩; intro w hSw; (try dsimp only at hSw); go_simp; try with_reducible rfl)
          case hq17b => exact fun _ _ _ h => h
          try simp only [Act.put, List.setIfInBounds_toArray, List.set_cons_zero, List.set_cons_succ]
          refine wpAnyH_ready (rs := [18]) (by kernel_rfl) (by simp) ?_
          refine AllReadyH.cons (o := ?o18b) ?ho18b (fun K hK => ?st18b) ?mo18b
          case ho18b => (simp only [List.getElem?_toArray, List.getElem?_cons_zero, List.getElem?_cons_succ]; rfl)
          · skip
            go_simp
            refine hK.out _ _ (HS5.out _) (fun _ => ?_)
            clear hK K
            try simp only [Act.put, List.setIfInBounds_toArray, List.set_cons_zero, List.set_cons_succ]
            refine wpAnyH_ready (rs := [19]) (by kernel_rfl) (by simp) ?_
            refine AllReadyH.cons (o := ?o19b) ?ho19b (fun K hK => ?st19b) ?mo19b
            case ho19b => (simp only [List.getElem?_toArray, List.getElem?_cons_zero, List.getElem?_cons_succ]; rfl)
            · skip
              refine step_appN w4 (by rfl) _ _ 25 (by rfl) wp.heap.size 28 i0 _ 3 40 u_wrs hi0 hz0 hz1 hz2 rfl (by decide) _ QL.length _ (by rfl) HO4.out #[.int .i64 x.file, .bool x.start, .slice (some ⟨g4, 0, none⟩) x.bs.length p4] rfl (by rfl) (rw_one ⟨x, g4, p4⟩) (by simp only [maxLen]; omega) (by omega) hs4P ?_
              intro v6 w6 ho6 hb6 hg6 hat6
              have hc6 := Chg.of_grown hg6
              have HR6 := Lib.hid (HR4.out.row HO4.out hc6)
              have hP6 := HP4.out.row HO4.out hsP hc6
              have HP6 := Lib.hid hP6
              have HS6 := Lib.hid (HCE.out w6 hP6.bw)
              have HO6 : Hid (w6.ownsRow wp.heap.size 28 3 v6 (QL ++ [(⟨x, g4, p4⟩ : Rw)]).length (rowsW (QL ++ [(⟨x, g4, p4⟩ : Rw)]))) := Lib.hid (by rw [rowsW_snoc, List.length_append]; exact ho6)
              have HZ6 : Hid (wp.heap.size ≤ w6.heap.size) := Lib.hid (Nat.le_trans hs4P hc6.size)
              clear ho6 hb6 hg6 hat6 hc6 hP6
              refine hK.out _ _ HS6.out (fun _ => ?_)
              clear hK K
              try simp only [Act.put, List.setIfInBounds_toArray, List.set_cons_zero, List.set_cons_succ]
              refine wpAnyH_take (i := 20) (oi := ?oi20b) (v := ?v20b) ?hi20b (by kernel_rfl) (by kernel_rfl) (by kernel_rfl) ?hq20b ?hy20b (by assumption) ?rest20b
              case hi20b => (simp only [List.getElem?_toArray, List.getElem?_cons_zero, List.getElem?_cons_succ]; rfl)
              case hy20b => (refine Or.inl ⟨by rfl, ?_⟩; intro w hSw; (try dsimp only at hSw); go_simp; try with_reducible rfl)
              case hq20b => exact fun _ _ _ h => h
              try simp only [Act.put, List.setIfInBounds_toArray, List.set_cons_zero, List.set_cons_succ]
              refine wpAnyH_done (by kernel_rfl) ?_ _
              have HK6 := Lib.hid (HKX2.out ⟨x, g4, p4⟩ rfl)
              go_wp2_with fail
              go_roundw
              case rel => exact ⟨QL ++ [⟨x, g4, p4⟩], by simp; omega, by simp <;> go_num, HK6, HR6, HP6, HO6, HZ6⟩
              case measure => simp [intOf] <;> omega
            exact AllReadyH.nil
          exact AllReadyH.nil
        exact AllReadyH.nil
      · obtain rfl : QL.length = n := by omega
        have HWX : Hid (QL.map Rw.x = ws) := Lib.hid (by rw [HKX.out, HLN.out, List.take_length])
        obtain ⟨A8, c8, rfl, _, _⟩ := own_shape HOW.out
        have hW8 := WsAt.of_sp HOW.out HRU.out
        rw [HWX.out] at hW8
        have HCP := Lib.hid (PCost_any (cap := c8) A8 QL.length ws hW8 (by have := HC.out; omega) (by omega))
        have HCR := Lib.hid fun (W : World) (hW : Below w.heap.size w W) => RCost_any (cap := cap) A QL.length ws ((H.out.below hW)) (by have := HC.out; omega) (by omega)
        have HW8 := Lib.hid hW8
        clear hW8 hlt hKn HKX
        obtain ⟨w2, HWY⟩ : ∃ w2, Hid (wr = w2) := ⟨_, Lib.hid rfl⟩
        rw [HWY.out] at HRU HPR HOW HSZ HCP HW8 ⊢
        clear HWY
        obtain ⟨CW, hCW⟩ : ∃ CW, CW = costW ws := ⟨_, rfl⟩
        rw [← hCW] at HCP HCR
        clear hCW
        have hne : ((CW : Int) != (CW : Int)) = false := by simp
        go_upto_region 9 with (first
          | (go_at_call 5; refine HCP.out.mono ?_; rintro _ w3 ⟨rfl, hb3⟩; have HCR2 := Lib.hid (HCR.out w3 (HPR.out.bw.trans (hb3.mono HPR.out.bw.size))); have HB3 := Lib.hid hb3; clear hb3)
          | (go_at_call 6; refine HCR2.out.mono ?_; rintro _ _ ⟨rfl, rfl⟩))
        have hP3 := HPR.out.over HB3.out
        have hR3 := HRU.out.over HB3.out
        have hO3 := own_over HOW.out HB3.out
        have HSP3 : Hid (wp.heap.size ≤ w3.heap.size) := Lib.hid (Nat.le_trans HSZ.out HB3.out.size)
        have hW3 := HW8.out.below HB3.out
        obtain ⟨F, hF⟩ : ∃ F, F = apD ws k f := ⟨_, rfl⟩
        have hap := PApply_any (cap := c8) A8 QL.length ws (some ⟨ga, 0, none⟩) (some ⟨gb, 0, none⟩) pa pb f k hW3 HC.out (by omega) hP3.sa.rd hP3.sb.rd (by omega) (by omega)
        rw [apply_same, ← hF] at hap
        have HAP := Lib.hid hap
        have HFE := Lib.hid hF
        have c0 : w3.cell? ⟨C, 0, none⟩ = some (.slice (some ⟨ga, 0, none⟩) f.a.length pa) := hP3.c.cell 0
        have c1 : w3.cell? ⟨C, 1, none⟩ = some (.slice (some ⟨gb, 0, none⟩) f.b.length pb) := hP3.c.cell 1
        have HP3 := Lib.hid hP3
        have HR3 := Lib.hid hR3
        have HO3 := Lib.hid hO3
        clear hP3 hR3 hO3 hW3 hap hF HPR HRU HOW HW8 HCP HCR HCR2 HB3 hne
        go_upto_region 10 with (go_at_call 7; refine HAP.out.mono ?_; rintro _ w4 ⟨X0, e0, X1, e1, rfl, hx0, hx1, _, hb4⟩; have HX4 := Lib.hid (And.intro hx0 hx1); have HB4 := Lib.hid hb4; clear hx0 hx1 hb4)
        have hb5 := one_box' w4 (.cells #[.slice X0 F.a.length e0, .slice X1 F.b.length e1] 24)
        have hB5 := Blk.new w4 24 #[.slice X0 F.a.length e0, .slice X1 F.b.length e1]
        obtain ⟨w5, hw5⟩ : ∃ w5, w5 = w4.alloc (.cells #[.slice X0 F.a.length e0, .slice X1 F.b.length e1] 24) := ⟨_, rfl⟩
        rw [← hw5] at hb5 hB5
        rw [← hw5]
        have hb35 : Below w3.heap.size w3 w5 := HB4.out.trans (hb5.mono HB4.out.size)
        have HDX : Hid (DkAt w5 w3.heap.size w4.heap.size X0 e0 X1 e1 F) := Lib.hid ⟨hB5, own_over HX4.out.1 hb5, own_over HX4.out.2 hb5⟩
        have hP5 := HP3.out.over hb35
        have HP5 := Lib.hid hP5
        have HR5 := Lib.hid (HR3.out.over hb35)
        have HO5 := Lib.hid (own_over HO3.out hb35)
        have HRQ := Lib.hid fun (r : Nat) (q : Rw) (hq : QL[r]? = some q) => HR3.out.lt hq
        have HGL : Hid (ga < w3.heap.size ∧ gb < w3.heap.size) := Lib.hid ⟨by obtain ⟨_, hB⟩ := HP3.out.sa.blk; exact hB.lt, by obtain ⟨_, hB⟩ := HP3.out.sb.blk; exact hB.lt⟩
        have har := RApply_any (cap := cap) A QL.length ws DA DB ca cb f k (H.out.below hP5.bw) HC.out (by omega) ((HRA.out _ hP5.bw).more hP5.bw.size) ((HRB.out _ hP5.bw).more hP5.bw.size) (by omega) (by omega) hk63
        rw [← HFE.out] at har
        have HAR := Lib.hid har
        have d0 : w5.cell? ⟨w.heap.size, 0, none⟩ = some (.slice DA f.a.length ca) := hP5.x0.cell 0
        have d1 : w5.cell? ⟨w.heap.size, 1, none⟩ = some (.slice DB f.b.length cb) := hP5.x0.cell 1
        have HS35 : Hid (w3.heap.size ≤ w5.heap.size) := Lib.hid hb35.size
        generalize w4.heap.size = XB at *
        clear hb5 hB5 hw5 hb35 hP5 har HP3 HR3 HO3 HAP HX4 HB4 c0 c1
        go_upto_region 11 with (go_at_call 8; refine HAR.out.mono ?_; rintro _ w6 ⟨Y0, f0, Y1, f1, rfl, hy0, hy1, _, hb6⟩; have HY6 := Lib.hid (And.intro hy0 hy1); have HB6 := Lib.hid hb6; clear hy0 hy1 hb6)
        have hb7 := one_box' w6 (.cells #[.slice Y0 F.a.length f0, .slice Y1 F.b.length f1] 24)
        have hB7 := Blk.new w6 24 #[.slice Y0 F.a.length f0, .slice Y1 F.b.length f1]
        obtain ⟨w7, hw7⟩ : ∃ w7, w7 = w6.alloc (.cells #[.slice Y0 F.a.length f0, .slice Y1 F.b.length f1] 24) := ⟨_, rfl⟩
        rw [← hw7] at hb7 hB7
        rw [← hw7]
        have hb57 : Below w5.heap.size w5 w7 := HB6.out.trans (hb7.mono HB6.out.size)
        have HDY : Hid (DkAt w7 w3.heap.size w6.heap.size Y0 f0 Y1 f1 F) := Lib.hid ⟨hB7, own_base (own_over HY6.out.1 hb7) HS35.out, own_base (own_over HY6.out.2 hb7) HS35.out⟩
        have hDX := HDX.out.over hb57
        have hDY := HDY.out
        have HP7 := Lib.hid (HP5.out.over hb57)
        have HR7 := Lib.hid (HR5.out.over hb57)
        have HO7 := Lib.hid (own_over HO5.out hb57)
        generalize w6.heap.size = YB at *
        have x0 : w7.cell? ⟨XB, 0, none⟩ = some (.slice X0 F.a.length e0) := hDX.box.cell 0
        have x1 : w7.cell? ⟨XB, 1, none⟩ = some (.slice X1 F.b.length e1) := hDX.box.cell 1
        have y0 : w7.cell? ⟨YB, 0, none⟩ = some (.slice Y0 F.a.length f0) := hDY.box.cell 0
        have y1 : w7.cell? ⟨YB, 1, none⟩ = some (.slice Y1 F.b.length f1) := hDY.box.cell 1
        have HDK := Lib.hid (disks_yes X0 Y0 X1 Y1 e0 f0 e1 f1 F.a F.b (Rd.of_own hDX.oa) (Rd.of_own hDX.ob) (Rd.of_own hDY.oa) (Rd.of_own hDY.ob))
        have HIN : Hid (∀ W, Below w7.heap.size w7 W → Hid (Pre w DA DB ca cb f C ga gb pa pb W) ∧ Hid (RdB W w.heap.size DA f.a.length f.a) ∧ Hid (RdB W w.heap.size DB f.b.length f.b) ∧
            W.cell? ⟨C, 0, none⟩ = some (.slice (some ⟨ga, 0, none⟩) f.a.length pa) ∧ W.cell? ⟨C, 1, none⟩ = some (.slice (some ⟨gb, 0, none⟩) f.b.length pb) ∧ W.cell? ⟨w.heap.size, 0, none⟩ = some (.slice DA f.a.length ca) ∧ W.cell? ⟨w.heap.size, 1, none⟩ = some (.slice DB f.b.length cb)) := Lib.hid fun W hW => by
          have hp := HP7.out.over hW
          exact ⟨Lib.hid hp, Lib.hid (HRA.out W hp.bw), Lib.hid (HRB.out W hp.bw), hp.c.cell 0, hp.c.cell 1, hp.x0.cell 0, hp.x0.cell 1⟩
        have HDX7 := Lib.hid hDX
        have HDY7 := Lib.hid hDY
        clear hb7 hB7 hw7 hb57 hDX hDY HP5 HR5 HO5 HDX HDY HAR HY6 HB6 d0 d1
        go_upto_region 13 with (first
          | (go_at_call 9; refine HDK.out.mono ?_; rintro _ w8 ⟨rfl, hb8⟩; obtain ⟨HP8, HRA8, HRB8, g0, g1, g2, g3⟩ := HIN.out w8 hb8; have HB8 := Lib.hid hb8; clear hb8)
          | (go_at_call 10; refine (intact_sp _ _ w.heap.size _ _ (by first | exact HP8.out.sa | exact HP8.out.sb) (by first | exact HRA8.out | exact HRB8.out)).mono ?_; rintro _ _ ⟨rfl, rfl⟩))
        have HR8 := Lib.hid (HR7.out.over HB8.out)
        have HO8 := Lib.hid (own_over HO7.out HB8.out)
        have HX8 := Lib.hid (HDX7.out.over HB8.out)
        have HY8 := Lib.hid (HDY7.out.over HB8.out)
        have HCAP : Hid (∀ (j : Nat) (r : Rw), QL[j]? = some r → r.x.bs.length ≤ r.cap ∧ r.x.bs.length ≤ 1048576 ∧ ws[j]? = some r.x ∧ r.g < w3.heap.size ∧ wp.heap.size ≤ r.g) := Lib.hid fun j r hj => by
          obtain ⟨_, _, _, _, h1, _⟩ := HR8.out.sp j r hj (Nat.zero_le _)
          have h2 : ws[j]? = some r.x := by rw [← HWX.out, List.getElem?_map, hj]; rfl
          exact ⟨by omega, HXS.out r.x (List.mem_of_getElem? h2), h2, HRQ.out j r hj, HR8.out.lo j r hj⟩
        clear HR7 HO7 HDX7 HDY7 HDK HIN HRA8 HRB8 x0 x1 y0 y1 g0 g1 g2 g3 HS35 HP7 HB8 HGL HRQ
        go_wp2_with fail
        go_loopw [12] (fun i wr => ∃ u : Nat, u ≤ QL.length ∧ i = .int .i64 (u : Int) ∧ Hid (RowsU wp.heap.size QL u wr) ∧ Hid (Pre w DA DB ca cb f C ga gb pa pb wr) ∧ Hid (wr.ownsRow wp.heap.size 28 3 (.slice A8 QL.length c8) QL.length (rowsW QL)) ∧ Hid (DkAt wr w3.heap.size XB X0 e0 X1 e1 F) ∧ Hid (DkAt wr w3.heap.size YB Y0 f0 Y1 f1 F)) (fun i _ => QL.length - (intOf i).toNat)
        case atStart => exact ⟨0, by omega, rfl, HR8, HP8, HO8, HX8, HY8⟩
        case round =>
          clear HR8 HP8 HO8 HX8 HY8
          obtain ⟨u, hu, rfl, HR, HPR, HO, HX, HY⟩ := hrel
          by_cases hlt : u < QL.length
          · have hI : (u : Int) < (QL.length : Int) := by omega
            obtain ⟨r, hr⟩ : ∃ r, QL[u]? = some r := ⟨_, List.getElem?_eq_getElem hlt⟩
            obtain ⟨hcp, hbn, hwx, hrl, hrw⟩ := HCAP.out u r hr
            obtain ⟨q, rfl, hql, _, _, c2⟩ := rows_cells HO.out hr
            obtain ⟨gq, o, bA, bc, rfl, hgq, _, _, e2, hrd, _⟩ := H.out.at_ u r.x hwx
            rw [Nat.zero_add] at c2
            obtain ⟨wd, hwd⟩ : ∃ wd, wd = wr.drew := ⟨_, rfl⟩
            have hbd : Below wr.heap.size wr wd := by rw [hwd]; exact below_drewN (Below.refl _ _) 1
            have hP := HPR.out.over hbd
            have hRd := HR.out.over hbd
            have hsp := hRd.sp u r hr (Nat.le_refl _)
            have hOd := own_over HO.out hbd
            have c2d : wd.cell? ⟨q, u * 3 + 2, none⟩ = some (.slice (some ⟨r.g, 0, none⟩) r.x.bs.length r.cap) := (hbd.cell (p := ⟨q, u * 3 + 2, none⟩) hql).trans c2
            have e2d : wd.cell? ⟨gq, o + u * 3 + 2, none⟩ = some (.slice bA r.x.bs.length bc) := (hP.bw.cell (p := ⟨gq, o + u * 3 + 2, none⟩) hgq).trans e2
            have HIN := Lib.hid (intact_sp bA bc _ r.x.bs wd hsp (hrd.below hP.bw))
            have HFL := Lib.hid (full_sp r.x.bs wd hsp (by omega))
            have HNX : Hid (∀ w', FuAt w' r.g r.x.bs.length → Chg (fun j => j = r.g) wd w' → RowsU wp.heap.size QL (u + 1) w' ∧ Pre w DA DB ca cb f C ga gb pa pb w' ∧ w'.ownsRow wp.heap.size 28 3 (.slice (some ⟨q, 0, none⟩) QL.length c8) QL.length (rowsW QL) ∧ DkAt w' w3.heap.size XB X0 e0 X1 e1 F ∧ DkAt w' w3.heap.size YB Y0 f0 Y1 f1 F) := Lib.hid fun w' hf hc => by
              obtain ⟨cur, hB⟩ := hsp.blk
              refine ⟨hRd.step hr hc hf, hP.chg ⟨cur, hB⟩ hc (by have := HGP.out; omega) (by have := HGP.out; omega) (by omega), own_chg hOd hc fun j hj e => ?_, (HX.out.over hbd).chg hc hrl ?_, (HY.out.over hbd).chg hc hrl ?_⟩
              · obtain ⟨_, _, cu2, hB2⟩ := own_block_lt hOd hj
                subst e
                exact hB.ne_ hB2 (by decide) rfl
              · intro e
                exact hB.ne_ (HX.out.over hbd).box (by decide) e.symm
              · intro e
                exact hB.ne_ (HY.out.over hbd).box (by decide) e.symm
            have HWD := Lib.hid hwd
            have HSS := Lib.hid (And.intro c2d e2d)
            clear hP hRd hsp hOd hwd hbd c2 e2 hr hwx hrd
            go_upto_region 16 with fail
            refine wp_region_held_drew (S := fun W => W.cell? ⟨q, u * 3 + 2, none⟩ = some (.slice (some ⟨r.g, 0, none⟩) r.x.bs.length r.cap) ∧ W.cell? ⟨gq, o + u * 3 + 2, none⟩ = some (.slice bA r.x.bs.length bc)) (by kernel_rfl) (by rw [← HWD.out]; exact HSS.out) (fun hsw => ?_)
            rw [← HWD.out] at hsw ⊢
            refine wpAnyH_take (i := 0) (oi := ?oi0e) (v := ?v0e) ?hi0e (by kernel_rfl) (by kernel_rfl) (by kernel_rfl) ?hq0e ?hy0e (by assumption) ?rest0e
            case hi0e => (simp only [List.getElem?_toArray, List.getElem?_cons_zero]; rfl)
            case hy0e => (refine Or.inl ⟨by rfl, ?_⟩; intro w hSw; (try dsimp only at hSw); go_simp; try with_reducible rfl)
            case hq0e => exact fun _ _ _ h => h
            try simp only [Act.put, List.setIfInBounds_toArray, List.set_cons_zero, List.set_cons_succ]
            refine wpAnyH_take (i := 1) (oi := ?oi1e) (v := ?v1e) ?hi1e (by kernel_rfl) (by kernel_rfl) (by kernel_rfl) ?hq1e ?hy1e (by assumption) ?rest1e
            case hi1e => (simp only [List.getElem?_toArray, List.getElem?_cons_zero, List.getElem?_cons_succ]; rfl)
            case hy1e => (refine Or.inl ⟨by rfl, ?_⟩; intro w hSw; (try dsimp only at hSw); go_simp; try with_reducible rfl)
            case hq1e => exact fun _ _ _ h => h
            try simp only [Act.put, List.setIfInBounds_toArray, List.set_cons_zero, List.set_cons_succ]
            refine wpAnyH_take (i := 2) (oi := ?oi2e) (v := ?v2e) ?hi2e (by kernel_rfl) (by kernel_rfl) (by kernel_rfl) ?hq2e ?hy2e (by assumption) ?rest2e
            case hi2e => (simp only [List.getElem?_toArray, List.getElem?_cons_zero, List.getElem?_cons_succ]; rfl)
            case hy2e => (refine Or.inl ⟨by rfl, ?_⟩; intro w hSw; (try dsimp only at hSw); go_simp; try with_reducible rfl)
            case hq2e => exact fun _ _ _ h => h
            try simp only [Act.put, List.setIfInBounds_toArray, List.set_cons_zero, List.set_cons_succ]
            refine wpAnyH_take (i := 3) (oi := ?oi3e) (v := ?v3e) ?hi3e (by kernel_rfl) (by kernel_rfl) (by kernel_rfl) ?hq3e ?hy3e (by assumption) ?rest3e
            case hi3e => (simp only [List.getElem?_toArray, List.getElem?_cons_zero, List.getElem?_cons_succ]; rfl)
            case hy3e => (refine Or.inl ⟨by rfl, ?_⟩; intro w hSw; (try dsimp only at hSw); go_simp; try with_reducible rfl)
            case hq3e => exact fun _ _ _ h => h
            try simp only [Act.put, List.setIfInBounds_toArray, List.set_cons_zero, List.set_cons_succ]
            refine wpAnyH_take (i := 4) (oi := ?oi4e) (v := ?v4e) ?hi4e (by kernel_rfl) (by kernel_rfl) (by kernel_rfl) ?hq4e ?hy4e (by assumption) ?rest4e
            case hi4e => (simp only [List.getElem?_toArray, List.getElem?_cons_zero, List.getElem?_cons_succ]; rfl)
            case hy4e => (refine Or.inl ⟨by rfl, ?_⟩; intro w hSw; (try dsimp only at hSw); go_simp; try with_reducible rfl)
            case hq4e => exact fun _ _ _ h => h
            try simp only [Act.put, List.setIfInBounds_toArray, List.set_cons_zero, List.set_cons_succ]
            refine wpAnyH_take (i := 5) (oi := ?oi5e) (v := ?v5e) ?hi5e (by kernel_rfl) (by kernel_rfl) (by kernel_rfl) ?hq5e ?hy5e (by assumption) ?rest5e
            case hi5e => (simp only [List.getElem?_toArray, List.getElem?_cons_zero, List.getElem?_cons_succ]; rfl)
            case hy5e => (refine Or.inl ⟨by rfl, ?_⟩; intro w hSw; (try dsimp only at hSw); go_simp; try with_reducible rfl)
            case hq5e => exact fun _ _ _ h => h
            try simp only [Act.put, List.setIfInBounds_toArray, List.set_cons_zero, List.set_cons_succ]
            refine wpAnyH_take (i := 6) (oi := ?oi6e) (v := ?v6e) ?hi6e (by kernel_rfl) (by kernel_rfl) (by kernel_rfl) ?hq6e ?hy6e (by assumption) ?rest6e
            case hi6e => (simp only [List.getElem?_toArray, List.getElem?_cons_zero, List.getElem?_cons_succ]; rfl)
            case hy6e => (refine Or.inl ⟨by rfl, ?_⟩; intro w hSw; (try dsimp only at hSw); go_simp; try with_reducible rfl)
            case hq6e => exact fun _ _ _ h => h
            try simp only [Act.put, List.setIfInBounds_toArray, List.set_cons_zero, List.set_cons_succ]
            refine wpAnyH_take (i := 7) (oi := ?oi7e) (v := ?v7e) ?hi7e (by kernel_rfl) (by kernel_rfl) (by kernel_rfl) ?hq7e ?hy7e (by assumption) ?rest7e
            case hi7e => (simp only [List.getElem?_toArray, List.getElem?_cons_zero, List.getElem?_cons_succ]; rfl)
            case hy7e => (refine Or.inl ⟨by rfl, ?_⟩; intro w hSw; (try dsimp only at hSw); go_simp; try with_reducible rfl)
            case hq7e => exact fun _ _ _ h => h
            try simp only [Act.put, List.setIfInBounds_toArray, List.set_cons_zero, List.set_cons_succ]
            refine wpAnyH_take (i := 8) (oi := ?oi8e) (v := ?v8e) ?hi8e (by kernel_rfl) (by kernel_rfl) (by kernel_rfl) ?hq8e ?hy8e (by assumption) ?rest8e
            case hi8e => (simp only [List.getElem?_toArray, List.getElem?_cons_zero, List.getElem?_cons_succ]; rfl)
            case hy8e => (refine Or.inl ⟨by rfl, ?_⟩; intro w hSw; (try dsimp only at hSw); go_simp; try with_reducible rfl)
            case hq8e => exact fun _ _ _ h => h
            try simp only [Act.put, List.setIfInBounds_toArray, List.set_cons_zero, List.set_cons_succ]
            refine wpAnyH_take (i := 9) (oi := ?oi9e) (v := ?v9e) ?hi9e (by kernel_rfl) (by kernel_rfl) (by kernel_rfl) ?hq9e ?hy9e (by assumption) ?rest9e
            case hi9e => (simp only [List.getElem?_toArray, List.getElem?_cons_zero, List.getElem?_cons_succ]; rfl)
            case hy9e => (refine Or.inl ⟨by rfl, ?_⟩; intro w hSw; (try dsimp only at hSw); go_simp; try with_reducible rfl)
            case hq9e => exact fun _ _ _ h => h
            try simp only [Act.put, List.setIfInBounds_toArray, List.set_cons_zero, List.set_cons_succ]
            refine wpAnyH_ready (rs := [10]) (by kernel_rfl) (by simp) ?_
            refine AllReadyH.cons (o := ?o10e) ?ho10e (fun K hK => ?st10e) ?mo10e
            case ho10e => (simp only [List.getElem?_toArray, List.getElem?_cons_zero, List.getElem?_cons_succ]; rfl)
            · skip
              go_simp
              refine HIN.out.mono ?_
              rintro _ _ ⟨rfl, rfl⟩
              go_simp
              refine hK.out _ _ HSS.out (fun _ => ?_)
              clear hK K
              try simp only [Act.put, List.setIfInBounds_toArray, List.set_cons_zero, List.set_cons_succ]
              refine wpAnyH_take (i := 11) (oi := ?oi11e) (v := ?v11e) ?hi11e (by kernel_rfl) (by kernel_rfl) (by kernel_rfl) ?hq11e ?hy11e (by assumption) ?rest11e
              case hi11e => (simp only [List.getElem?_toArray, List.getElem?_cons_zero, List.getElem?_cons_succ]; rfl)
              case hy11e => (refine Or.inl ⟨by rfl, ?_⟩; intro w hSw; (try dsimp only at hSw); go_simp; try with_reducible rfl)
              case hq11e => exact fun _ _ _ h => h
              try simp only [Act.put, List.setIfInBounds_toArray, List.set_cons_zero, List.set_cons_succ]
              refine wpAnyH_done (by kernel_rfl) ?_ _
              go_wp2_with (go_at_call 11; refine HFL.out.mono ?_; rintro _ w9 ⟨rfl, hf9, hc9⟩; obtain ⟨n1, n2, n3, n4, n5⟩ := HNX.out w9 hf9 hc9; have N1 := Lib.hid n1; have N2 := Lib.hid n2; have N3 := Lib.hid n3; have N4 := Lib.hid n4; have N5 := Lib.hid n5; clear n1 n2 n3 n4 n5 hf9 hc9)
              go_roundw
              case rel => exact ⟨u + 1, by omega, by go_num, N1, N2, N3, N4, N5⟩
              case measure => simp [intOf] <;> omega
            · exact AllReadyH.nil
          · obtain rfl : u = QL.length := by omega
            clear hlt
            have HFW := Lib.hid fun (W : World) (hs : SpAt W ga pa f.a) => full_sp f.a W hs (by omega)
            have HFV := Lib.hid fun (W : World) (hs : SpAt W gb pb f.b) => full_sp f.b W hs (by omega)
            have hFA := full_sp f.a wr HPR.out.sa (by omega)
            have HFA := Lib.hid hFA
            have c0 : wr.cell? ⟨C, 0, none⟩ = some (.slice (some ⟨ga, 0, none⟩) f.a.length pa) := HPR.out.c.cell 0
            clear hFA
            go_upto_region 20 with (go_at_call 11; refine HFA.out.mono ?_; rintro _ w9 ⟨rfl, hf9, hc9⟩; have HF9 := Lib.hid hf9; have HC9 := Lib.hid hc9; clear hf9 hc9 c0)
            obtain ⟨cua, hBa⟩ := HPR.out.sa.blk
            have hC9 := HPR.out.c.chg HC9.out (fun e => hBa.ne_ HPR.out.c (by decide) e.symm)
            have hsb9 := HPR.out.sb.chg HC9.out (fun e => HPR.out.ge.2.2 e.symm)
            have hR9 := HR.out.chg HC9.out (fun j r hj e => by have := (HCAP.out j r hj).2.2.2.2; have := HGP.out; omega)
            have hO9 := own_chg HO.out HC9.out (fun j hj e => by
              obtain ⟨_, _, cu2, hB2⟩ := own_block_lt HO.out hj
              subst e
              exact hBa.ne_ hB2 (by decide) rfl)
            have hX9 := HX.out.chg HC9.out (by have := HGP.out; have := HSP3.out; omega) (fun e => hBa.ne_ HX.out.box (by decide) e.symm)
            have hY9 := HY.out.chg HC9.out (by have := HGP.out; have := HSP3.out; omega) (fun e => hBa.ne_ HY.out.box (by decide) e.symm)
            have hbw9 := HPR.out.bw.trans (HC9.out.to_below HPR.out.bw.size fun k e => by have := HPR.out.ge.1; omega)
            have c1 : w9.cell? ⟨C, 1, none⟩ = some (.slice (some ⟨gb, 0, none⟩) f.b.length pb) := hC9.cell 1
            have HFB := Lib.hid (full_sp f.b w9 hsb9 (by omega))
            have HCX := Lib.hid hC9
            have HSB9 := Lib.hid hsb9
            have HR9 := Lib.hid hR9
            have HO9 := Lib.hid hO9
            have HX9 := Lib.hid hX9
            have HY9 := Lib.hid hY9
            have HBW9 := Lib.hid hbw9
            clear hBa hC9 hsb9 hR9 hO9 hX9 hY9 hbw9 HR HO HX HY HFA HFW HFV
            go_upto_region 21 with (go_at_call 11; refine HFB.out.mono ?_; rintro _ wA ⟨rfl, hfA, hcA⟩; have HFA := Lib.hid hfA; have HCA := Lib.hid hcA; clear hfA hcA c1)
            obtain ⟨cub, hBb⟩ := HSB9.out.blk
            have hCA := HCX.out.chg HCA.out (fun e => hBb.ne_ HCX.out (by decide) e.symm)
            have hfa := HF9.out.chg HCA.out (fun e => HPR.out.ge.2.2 e)
            have hfb := HFA.out
            have hRA := HR9.out.chg HCA.out (fun j r hj e => by have := (HCAP.out j r hj).2.2.2.2; have := HGP.out; omega)
            have hOA := own_chg HO9.out HCA.out (fun j hj e => by
              obtain ⟨_, _, cu2, hB2⟩ := own_block_lt HO9.out hj
              subst e
              exact hBb.ne_ hB2 (by decide) rfl)
            have hXA := HX9.out.chg HCA.out (by have := HGP.out; have := HSP3.out; omega) (fun e => hBb.ne_ HX9.out.box (by decide) e.symm)
            have hYA := HY9.out.chg HCA.out (by have := HGP.out; have := HSP3.out; omega) (fun e => hBb.ne_ HY9.out.box (by decide) e.symm)
            have hbwA := HBW9.out.trans (HCA.out.to_below HBW9.out.size fun k e => by have := HPR.out.ge.2.1; omega)
            have hWA := WsAt.of_fu hOA hRA (fun j r hj => (HCAP.out j r hj).1)
            rw [HWX.out] at hWA
            have hcW : costW (ws.map Wr.ee) ≤ 4398046511104 := by rw [ee_cost]; exact HC.out
            obtain ⟨wz, hwz⟩ : ∃ wz, wz = ws.map Wr.ee := ⟨_, rfl⟩
            rw [← hwz] at hWA hcW
            obtain ⟨fz, hfz⟩ : ∃ fz : Fls, fz = ⟨ee f.a.length, ee f.b.length⟩ := ⟨_, rfl⟩
            have hza : fz.a = ee f.a.length := by rw [hfz]
            have hzb : fz.b = ee f.b.length := by rw [hfz]
            have hzla : fz.a.length = f.a.length := by rw [hza, ee_length]
            have hzlb : fz.b.length = f.b.length := by rw [hzb, ee_length]
            have hrda : RdB wA wA.heap.size (some ⟨ga, 0, none⟩) fz.a.length fz.a := by rw [hzla, hza]; exact hfa.rd
            have hrdb : RdB wA wA.heap.size (some ⟨gb, 0, none⟩) fz.b.length fz.b := by rw [hzlb, hzb]; exact hfb.rd
            obtain ⟨G, hG⟩ : ∃ G, G = apD wz k fz := ⟨_, rfl⟩
            have hap := PApply_any (cap := c8) A8 QL.length wz (some ⟨ga, 0, none⟩) (some ⟨gb, 0, none⟩) pa pb fz k hWA hcW (by omega) hrda hrdb (by omega) (by omega)
            rw [apply_same, ← hG, hzla, hzlb] at hap
            have HAP := Lib.hid hap
            have HAQ : Hid (∀ W, Below wA.heap.size wA W → Calls Try.prog 8 #[.agg #[.slice (some ⟨ga, 0, none⟩) f.a.length pa, .slice (some ⟨gb, 0, none⟩) f.b.length pb], .slice A8 QL.length c8, .int .i64 k] W (GivesF W G)) := Lib.hid fun W hW => by
              have h1 := RApply_any (cap := c8) A8 QL.length wz (some ⟨ga, 0, none⟩) (some ⟨gb, 0, none⟩) pa pb fz k (hWA.below hW) hcW (by omega) (hrda.over hW) (hrdb.over hW) (by omega) (by omega) hk63
              rw [← hG, hzla, hzlb] at h1
              exact h1
            have HCO : Hid (∀ W, Below wA.heap.size wA W → W.cell? ⟨C, 0, none⟩ = some (.slice (some ⟨ga, 0, none⟩) f.a.length pa) ∧ W.cell? ⟨C, 1, none⟩ = some (.slice (some ⟨gb, 0, none⟩) f.b.length pb)) := Lib.hid fun W hW => ⟨(hCA.over hW).cell 0, (hCA.over hW).cell 1⟩
            have HCP := Lib.hid fun (W : World) (hW : Below wA.heap.size wA W) => PCost_any (cap := c8) A8 QL.length wz (hWA.below hW) (by omega) (by omega)
            have HCR := Lib.hid fun (W : World) (hW : Below wA.heap.size wA W) => RCost_any (cap := c8) A8 QL.length wz (hWA.below hW) (by omega) (by omega)
            obtain ⟨c0, c1⟩ := HCO.out wA (Below.refl _ _)
            have HXA := Lib.hid hXA
            have HYA := Lib.hid hYA
            have HBWA := Lib.hid hbwA
            clear hBb hCA hfa hfb hRA hOA hXA hYA hbwA hWA hcW hwz hfz hza hzb hzla hzlb hrda hrdb hG hap HCX HSB9 HR9 HO9 HX9 HY9 HBW9 HFB
            go_upto_region 22 with (go_at_call 7; refine HAP.out.mono ?_; rintro _ wB ⟨P0, m0, P1, m1, rfl, hx0, hx1, _, hbB⟩; have HXB := Lib.hid (And.intro hx0 hx1); have HBB := Lib.hid hbB; clear hx0 hx1 hbB)
            have hbC := one_box' wB (.cells #[.slice P0 G.a.length m0, .slice P1 G.b.length m1] 24)
            have hBC := Blk.new wB 24 #[.slice P0 G.a.length m0, .slice P1 G.b.length m1]
            obtain ⟨wC, hwC⟩ : ∃ wC, wC = wB.alloc (.cells #[.slice P0 G.a.length m0, .slice P1 G.b.length m1] 24) := ⟨_, rfl⟩
            rw [← hwC] at hbC hBC
            rw [← hwC]
            have hAC : Below wA.heap.size wA wC := HBB.out.trans (hbC.mono HBB.out.size)
            have HDP : Hid (DkAt wC wA.heap.size wB.heap.size P0 m0 P1 m1 G) := Lib.hid ⟨hBC, own_over HXB.out.1 hbC, own_over HXB.out.2 hbC⟩
            have HAC := Lib.hid hAC
            have HAR := Lib.hid (HAQ.out wC hAC)
            obtain ⟨d0, d1⟩ := HCO.out wC hAC
            generalize wB.heap.size = PB at *
            clear hbC hBC hwC hAC HXB HBB c0 c1 HAP HAQ
            go_upto_region 23 with (go_at_call 8; refine HAR.out.mono ?_; rintro _ wD ⟨R0, n0, R1, n1, rfl, hx0, hx1, _, hbD⟩; have HXD := Lib.hid (And.intro hx0 hx1); have HBD := Lib.hid hbD; clear hx0 hx1 hbD)
            have hbE := one_box' wD (.cells #[.slice R0 G.a.length n0, .slice R1 G.b.length n1] 24)
            have hBE := Blk.new wD 24 #[.slice R0 G.a.length n0, .slice R1 G.b.length n1]
            obtain ⟨wE, hwE⟩ : ∃ wE, wE = wD.alloc (.cells #[.slice R0 G.a.length n0, .slice R1 G.b.length n1] 24) := ⟨_, rfl⟩
            rw [← hwE] at hbE hBE
            rw [← hwE]
            have hCE : Below wC.heap.size wC wE := HBD.out.trans (hbE.mono HBD.out.size)
            have hDR : DkAt wE wC.heap.size wD.heap.size R0 n0 R1 n1 G := ⟨hBE, own_over HXD.out.1 hbE, own_over HXD.out.2 hbE⟩
            have hDP := HDP.out.over hCE
            have hAE : Below wA.heap.size wA wE := HAC.out.trans (hCE.mono HAC.out.size)
            have hDX := HXA.out.over hAE
            have hDY := HYA.out.over hAE
            generalize wD.heap.size = RB at *
            have x0 : wE.cell? ⟨XB, 0, none⟩ = some (.slice X0 F.a.length e0) := hDX.box.cell 0
            have x1 : wE.cell? ⟨XB, 1, none⟩ = some (.slice X1 F.b.length e1) := hDX.box.cell 1
            have y0 : wE.cell? ⟨YB, 0, none⟩ = some (.slice Y0 F.a.length f0) := hDY.box.cell 0
            have y1 : wE.cell? ⟨YB, 1, none⟩ = some (.slice Y1 F.b.length f1) := hDY.box.cell 1
            have HDK := Lib.hid (disks_yes X0 Y0 X1 Y1 e0 f0 e1 f1 F.a F.b (Rd.of_own hDX.oa) (Rd.of_own hDX.ob) (Rd.of_own hDY.oa) (Rd.of_own hDY.ob))
            have HDZ : Hid (∀ W, Below wE.heap.size wE W → (W.cell? ⟨PB, 0, none⟩ = some (.slice P0 G.a.length m0) ∧ W.cell? ⟨PB, 1, none⟩ = some (.slice P1 G.b.length m1) ∧ W.cell? ⟨RB, 0, none⟩ = some (.slice R0 G.a.length n0) ∧ W.cell? ⟨RB, 1, none⟩ = some (.slice R1 G.b.length n1)) ∧
                Calls Try.prog 9 #[.agg #[.slice P0 G.a.length m0, .slice P1 G.b.length m1], .agg #[.slice R0 G.a.length n0, .slice R1 G.b.length n1]] W fun e w' => e = .returned (.bool true) ∧ Below W.heap.size W w') := Lib.hid fun W hW => by
              have h1 := hDP.over hW
              have h2 := hDR.over hW
              exact ⟨⟨h1.box.cell 0, h1.box.cell 1, h2.box.cell 0, h2.box.cell 1⟩, disks_yes P0 R0 P1 R1 m0 n0 m1 n1 G.a G.b (Rd.of_own h1.oa) (Rd.of_own h1.ob) (Rd.of_own h2.oa) (Rd.of_own h2.ob)⟩
            have HAE := Lib.hid hAE
            obtain ⟨CZ, hCZ⟩ : ∃ CZ, CZ = costW wz := ⟨_, rfl⟩
            rw [← hCZ] at HCP HCR
            have heq : ((CZ : Int) == (CZ : Int)) = true := by simp
            clear hbE hBE hwE hCE hDR hDP hAE hDX hDY HXD HBD HDP HAC HAR d0 d1 HXA HYA HCO hCZ
            go_wp2_with (first
              | (go_at_call 9; refine HDK.out.mono ?_; rintro _ wF ⟨rfl, hbF⟩; obtain ⟨⟨s0, s1, s2, s3⟩, hd2⟩ := HDZ.out wF hbF; have HD2 := Lib.hid hd2; have HBF := Lib.hid hbF; clear hbF hd2 HDK x0 x1 y0 y1)
              | (go_at_call 9; refine HD2.out.mono ?_; rintro _ wG ⟨rfl, hbG⟩; have hbEG := HBF.out.trans (hbG.mono HBF.out.size); have HCP2 := Lib.hid (HCP.out wG (HAE.out.trans (hbEG.mono HAE.out.size))); have HBG := Lib.hid hbEG; clear hbG hbEG HD2 s0 s1 s2 s3)
              | (go_at_call 5; refine HCP2.out.mono ?_; rintro _ wH ⟨rfl, hbH⟩; have hbEH := HBG.out.trans (hbH.mono HBG.out.size); have HCR2 := Lib.hid (HCR.out wH (HAE.out.trans (hbEH.mono HAE.out.size))); have HBH := Lib.hid hbEH; clear hbH hbEH)
              | (go_at_call 6; refine HCR2.out.mono ?_; rintro _ _ ⟨rfl, rfl⟩))
            go_ret
            exact ⟨rfl, HBWA.out.trans ((HAE.out.trans (HBH.out.mono HAE.out.size)).mono HBWA.out.size)⟩
  theorem JournalApplies_walk {H : Type} {enc : TypeId × Value → H} (A0 : Option Addr) (n0 k0 : Nat) (x0 : List UInt8) (A1 : Option Addr) (n1 k1 : Nat) (x1 : List UInt8) (A : Option Addr) (n cap : Nat) (k : Int) (w : World) (u0 : n0 ≤ 1048576) (_p0 : n0 ≤ k0) (_q0 : k0 ≤ 140737488351232) (r0 : RdB w w.heap.size A0 n0 x0)
      (u1 : n1 ≤ 1048576) (_p1 : n1 ≤ k1) (_q1 : k1 ≤ 140737488351232) (r1 : RdB w w.heap.size A1 n1 x1) (hn : n ≤ 1048576) {es : List (List Value)} (hl : es.length = n) (hr : Rd w w.heap.size 3 A n es.flatten) (hes : ∀ y ∈ es, y.length = 3 ∧ ∃ d, FitU enc Try.prog w 28 y d)
      (_bk : -9223372036854775808 ≤ k) (tk : k ≤ 9223372036854775807) :
      Calls Try.prog 3 #[.agg #[.slice A0 n0 k0, .slice A1 n1 k1], .slice A n cap, .int .i64 k] w fun e w' => e = .returned (.bool true) ∧ Below w.heap.size w w' := by
    obtain ⟨ws, h1, h2, h3⟩ := aws_open hn hl hr hes
    obtain rfl := r0.lenB
    obtain rfl := r1.lenB
    exact Applies_go A0 A1 k0 k1 ⟨x0, x1⟩ A n cap ws k w h1 h2 h3 hn r0 r1 u0 u1 tk
  end Go.Proofs.Ytpkdalpjfcopbaa
