/-
  The reference's 'Good' and 'Check'.
-/
import Derived.Test.YtffcepaegcllmaaDoorPackO
import Derived.Test.YtffcepaegcllmaaDoorPackG
namespace Go.Proofs.YtffcepaegcllmaaDoor
open Go.RowKit
/-- What Good asks of the head at first, and then. -/
def headG (p : Pk) : Bool := withinB p.s 0 15 && withinB p.d 0 15 && !(p.s == p.d) && withinB p.si 1 4611686018427387904 && withinB p.di 0 4611686018427387904
def gapB (p : Pk) : Bool := decide (p.di = 0) && !decide (p.k = 1)
theorem headG_of {p : Pk} (h : headB p.k p.s p.si p.d p.di = true) : headG p = true := by
  simp only [headB, cntB, Bool.and_eq_true, decide_eq_true_eq] at h
  simp only [headG, withinB, Bool.and_eq_true, decide_eq_true_eq, Bool.not_eq_true', beq_eq_false_iff_ne]
  split at h <;> omega
theorem gapB_of {p : Pk} (h : headB p.k p.s p.si p.d p.di = true) : gapB p = false := by
  simp only [headB, cntB, Bool.and_eq_true, decide_eq_true_eq] at h
  cases hg : gapB p with
  | false => rfl
  | true =>
    simp only [gapB, Bool.and_eq_true, decide_eq_true_eq, Bool.not_eq_true', decide_eq_false_iff_not] at hg
    rw [if_neg hg.2] at h
    omega
theorem headB_of {p : Pk} (h : headG p = true) (hg : gapB p = false) (hk : 1 ≤ p.k ∧ p.k ≤ 7) : headB p.k p.s p.si p.d p.di = true := by
  simp only [headB, cntB, Bool.and_eq_true, decide_eq_true_eq]
  simp only [headG, withinB, Bool.and_eq_true, decide_eq_true_eq, Bool.not_eq_true', beq_eq_false_iff_ne] at h
  by_cases h1 : p.k = 1
  · rw [if_pos h1]; omega
  · rw [if_neg h1]
    have : ¬ p.di = 0 := fun e => by simp [gapB, e, h1] at hg
    omega
theorem headB_foreign {p : Pk} (hk : ¬ (1 ≤ p.k ∧ p.k ≤ 7)) : headB p.k p.s p.si p.d p.di = false := by
  cases h : headB p.k p.s p.si p.d p.di with
  | false => rfl
  | true =>
    simp only [headB, Bool.and_eq_true, decide_eq_true_eq] at h
    omega
theorem valid_no {p : Pk} {D : PkD} (h : headB p.k p.s p.si p.d p.di = false) : validB p D = false := by simp [validB, h]
set_option maxRecDepth 100000 in
set_option maxHeartbeats 6400000 in
theorem Good_any (p : Pk) (D : PkD) (w : World) (hin : PkIn w w.heap.size p D) (hle : PkLe p) : Calls Tryd.prog 32 #[.agg p.cells] w fun r w' => r = .returned (.bool (validB p D)) ∧ Below w.heap.size w w' := by
  have HIN := Lib.hid hin
  have HLE := Lib.hid hle
  clear hin hle
  go_enter Tryd.func32, Tryd.ntmps32
  go_upto_region 1 with fail
  obtain ⟨w0, hw0⟩ : ∃ x, x = w.alloc (.cells p.cells 45) := ⟨_, rfl⟩
  rw [← hw0]
  have HB : Hid (Blk w0 w.heap.size 45 p.cells) := Lib.hid (by rw [hw0]; exact Blk.new _ _ _)
  have HBW : Hid (Below w.heap.size w w0) := Lib.hid (by rw [hw0]; exact one_box _ _)
  clear hw0
  have c0 : w0.cell? ⟨w.heap.size, 0, none⟩ = some (.int .i64 p.k) := HB.out.cell 0
  have c1 : w0.cell? ⟨w.heap.size, 1, none⟩ = some (.int .i64 p.s) := HB.out.cell 1
  have c2 : w0.cell? ⟨w.heap.size, 2, none⟩ = some (.int .i64 p.si) := HB.out.cell 2
  have c3 : w0.cell? ⟨w.heap.size, 3, none⟩ = some (.int .i64 p.d) := HB.out.cell 3
  have c4 : w0.cell? ⟨w.heap.size, 4, none⟩ = some (.int .i64 p.di) := HB.out.cell 4
  go_upto_region 2 with fail
  clear c0 c1 c2 c3 c4
  obtain ⟨w1, hw1⟩ : ∃ x, x = w0.alloc (.cells #[.int .i64 p.k, .int .i64 p.s, .int .i64 p.si, .int .i64 p.d, .int .i64 p.di] 23) := ⟨_, rfl⟩
  rw [← hw1]
  have HH : Hid (Blk w1 w0.heap.size 23 #[.int .i64 p.k, .int .i64 p.s, .int .i64 p.si, .int .i64 p.d, .int .i64 p.di]) := Lib.hid (by rw [hw1]; exact Blk.new _ _ _)
  have HB1 : Hid (Blk w1 w.heap.size 45 p.cells) := Lib.hid (by rw [hw1]; exact HB.out.alloc _)
  have HW1 : Hid (Below w.heap.size w w1) := Lib.hid (by rw [hw1]; exact HBW.out.alloc HBW.out.size _)
  clear hw1
  have d0 : w1.cell? ⟨w0.heap.size, 0, none⟩ = some (.int .i64 p.k) := HH.out.cell 0
  have d1 : w1.cell? ⟨w0.heap.size, 1, none⟩ = some (.int .i64 p.s) := HH.out.cell 1
  have d2 : w1.cell? ⟨w0.heap.size, 2, none⟩ = some (.int .i64 p.si) := HH.out.cell 2
  have d3 : w1.cell? ⟨w0.heap.size, 3, none⟩ = some (.int .i64 p.d) := HH.out.cell 3
  have d4 : w1.cell? ⟨w0.heap.size, 4, none⟩ = some (.int .i64 p.di) := HH.out.cell 4
  go_cut [34] from 4 to 84 (fun t wc => t = .bool (!headG p) ∧ Hid (wc = w1))
  case first =>
    as_aux_lemma =>
      cases hsd : (p.s == p.d) with
      | _ =>
        go_wp2_with (go_at_call 73; refine (Within_any _ _ _ _).mono ?_; rintro _ _ ⟨rfl, rfl⟩; go_simp)
        all_goals go_meet
        all_goals refine ⟨ret_val ?_, Lib.hid rfl⟩
        all_goals simp_all [headG]
  case rest =>
    obtain ⟨rfl, HC⟩ := hcut
    rw [HC.out]
    clear HC
    apply_assumption
    cases hG : headG p with
    | false =>
      have HVF : Hid (validB p D = false) := Lib.hid (valid_no (by
        cases h : headB p.k p.s p.si p.d p.di with
        | false => rfl
        | true => rw [headG_of h] at hG; cases hG))
      as_aux_lemma =>
        go_wp2_with fail
        go_ret
        exact ⟨ret_bool HVF.out.symm, HW1.out⟩
    | true =>
      have HG := Lib.hid hG
      clear hG
      go_upto_region 4 with fail
      go_cut [47] from 4 to 84 (fun t wc => t = .bool (gapB p || !p.others) ∧ Hid (Blk wc w.heap.size 45 p.cells ∧ Blk wc w0.heap.size 23 #[.int .i64 p.k, .int .i64 p.s, .int .i64 p.si, .int .i64 p.d, .int .i64 p.di] ∧ Below w.heap.size w wc))
      case first =>
        have HGP : Hid (gapB p = ((p.di == 0) && (p.k != 1))) := Lib.hid (by unfold gapB; rw [Bool.eq_iff_iff]; simp)
        as_aux_lemma =>
          cases e1 : (p.di == 0) with
          | _ =>
            cases e2 : (p.k != 1) with
            | _ =>
              have HE : Hid ((p.di == 0) = _ ∧ (p.k != 1) = _) := Lib.hid ⟨e1, e2⟩
              go_wp2_with (first | (refine wpList_load_on (by rfl) 45 _ (by rfl) w.heap.size (by rfl) 45 p.cells (0, 0) _ HB1.out Tryd.underlying45 rfl (by kernel_rfl) ?_; simp only [Act.put, List.setIfInBounds_toArray, List.set_cons_zero, List.set_cons_succ]) | (go_at_call 74; refine (others_any p _).mono ?_; rintro _ w2 ⟨rfl, hb2⟩; have H2 := Lib.hid hb2; clear hb2; go_simp))
              go_meet
              refine ⟨ret_val ?_, Lib.hid (by first | exact ⟨HB1.out, HH.out, HW1.out⟩ | exact ⟨HB1.out.over H2.out, HH.out.over H2.out, Below.then HW1.out H2.out⟩)⟩
              rw [HGP.out, HE.out.1, HE.out.2]
              simp
      case rest =>
        obtain ⟨rfl, HC⟩ := hcut
        clear d0 d1 d2 d3 d4
        apply_assumption
        rename World => w2
        have HB2 := Lib.hid HC.out.1
        have HH2 := Lib.hid HC.out.2.1
        have HW2 := Lib.hid HC.out.2.2
        clear HC
        cases hz : (gapB p || !p.others) with
        | true =>
          have HVF : Hid (validB p D = false) := Lib.hid (by
            cases ho : p.others with
            | false => simp [validB, ho]
            | true => exact valid_no (by
                cases h : headB p.k p.s p.si p.d p.di with
                | false => rfl
                | true => rw [gapB_of h, ho] at hz; cases hz))
          as_aux_lemma =>
            go_wp2_with fail
            go_ret
            exact ⟨ret_bool HVF.out.symm, HW2.out⟩
        | false =>
          have HZ : Hid (gapB p = false ∧ p.others = true) := Lib.hid (by simpa using hz)
          clear hz
          have HI := Lib.hid ((HIN.out.below HW2.out).more HW2.out.size)
          have x0 : w2.cell? ⟨w0.heap.size, 0, none⟩ = some (.int .i64 p.k) := HH2.out.cell 0
          by_cases hkk : 1 ≤ p.k ∧ p.k ≤ 7
          · have HVK : Hid (validB p D = kindB p D) := Lib.hid (by simp [validB, headB_of HG.out HZ.out.1 hkk, HZ.out.2])
            rcases head_kind (headB_of HG.out HZ.out.1 hkk) with hk | hk | hk | hk | hk | hk | hk
            · have HK : Hid (validB p D = beatB p.tk D.hears) := Lib.hid (by rw [HVK.out]; simp [kindB, hk])
              rw [hk] at x0
              have x5 : w2.cell? ⟨w.heap.size, 5, none⟩ = some (.int .i64 p.tk) := HB2.out.cell 5
              have x6 : w2.cell? ⟨w.heap.size, 6, none⟩ = some (.slice p.hA p.hn p.hc) := HB2.out.cell 6
              clear hk hkk
              as_aux_lemma =>
                go_wp2_with (go_at_call 75; refine (goodBeat_any _ _ _ _ _ _ HI.out.rh HLE.out.lh).mono ?_; rintro _ w3 ⟨rfl, hb3⟩; have H3 := Lib.hid hb3; clear hb3; go_simp)
                go_ret
                exact ⟨ret_bool HK.out.symm, Below.then HW2.out H3.out⟩
            · have HK : Hid (validB p D = propB D.set p.cid p.rev p.top p.p1 p.p2 p.p3 p.p4 D.vec) := Lib.hid (by rw [HVK.out]; simp [kindB, hk])
              rw [hk] at x0
              have x7 : w2.cell? ⟨w.heap.size, 7, none⟩ = some (.slice p.pA p.pn p.pc) := HB2.out.cell 7
              have x8 : w2.cell? ⟨w.heap.size, 8, none⟩ = some (.int .i64 p.cid) := HB2.out.cell 8
              have x9 : w2.cell? ⟨w.heap.size, 9, none⟩ = some (.int .i64 p.rev) := HB2.out.cell 9
              have x10 : w2.cell? ⟨w.heap.size, 10, none⟩ = some (.int .i64 p.top) := HB2.out.cell 10
              have x11 : w2.cell? ⟨w.heap.size, 11, none⟩ = some (.int .i64 p.p1) := HB2.out.cell 11
              have x12 : w2.cell? ⟨w.heap.size, 12, none⟩ = some (.int .i64 p.p2) := HB2.out.cell 12
              have x13 : w2.cell? ⟨w.heap.size, 13, none⟩ = some (.int .i64 p.p3) := HB2.out.cell 13
              have x14 : w2.cell? ⟨w.heap.size, 14, none⟩ = some (.int .i64 p.p4) := HB2.out.cell 14
              have x15 : w2.cell? ⟨w.heap.size, 15, none⟩ = some (.slice p.vA p.vn p.vc) := HB2.out.cell 15
              clear hk hkk
              as_aux_lemma =>
                go_wp2_with (go_at_call 76; refine (goodPropose_any _ _ _ _ _ _ _ _ _ _ _ _ _ _ _ _ HI.out.rp HI.out.rv HLE.out.lp HLE.out.lv).mono ?_; rintro _ w3 ⟨rfl, hb3⟩; have H3 := Lib.hid hb3; clear hb3; go_simp)
                go_ret
                exact ⟨ret_bool HK.out.symm, Below.then HW2.out H3.out⟩
            · have HK : Hid (validB p D = flushB p.f1 p.f2 p.f3 p.f4 p.base D.slots D.got) := Lib.hid (by rw [HVK.out]; simp [kindB, hk])
              rw [hk] at x0
              have x16 : w2.cell? ⟨w.heap.size, 16, none⟩ = some (.int .i64 p.f1) := HB2.out.cell 16
              have x17 : w2.cell? ⟨w.heap.size, 17, none⟩ = some (.int .i64 p.f2) := HB2.out.cell 17
              have x18 : w2.cell? ⟨w.heap.size, 18, none⟩ = some (.int .i64 p.f3) := HB2.out.cell 18
              have x19 : w2.cell? ⟨w.heap.size, 19, none⟩ = some (.int .i64 p.f4) := HB2.out.cell 19
              have x20 : w2.cell? ⟨w.heap.size, 20, none⟩ = some (.int .i64 p.base) := HB2.out.cell 20
              have x21 : w2.cell? ⟨w.heap.size, 21, none⟩ = some (.slice p.sA p.sn p.sc) := HB2.out.cell 21
              have x22 : w2.cell? ⟨w.heap.size, 22, none⟩ = some (.slice p.eA p.en p.ec) := HB2.out.cell 22
              clear hk hkk
              as_aux_lemma =>
                go_wp2_with (go_at_call 77; refine (goodFlush_any _ _ _ _ _ _ _ _ _ _ _ _ _ _ HI.out.rs HI.out.re HLE.out.ls HLE.out.le).mono ?_; rintro _ w3 ⟨rfl, hb3⟩; have H3 := Lib.hid hb3; clear hb3; go_simp)
                go_ret
                exact ⟨ret_bool HK.out.symm, Below.then HW2.out H3.out⟩
            · have HK : Hid (validB p D = stableB p.w1 p.w2 p.w3 p.w4 p.done p.pfx) := Lib.hid (by rw [HVK.out]; simp [kindB, hk])
              rw [hk] at x0
              have x23 : w2.cell? ⟨w.heap.size, 23, none⟩ = some (.int .i64 p.w1) := HB2.out.cell 23
              have x24 : w2.cell? ⟨w.heap.size, 24, none⟩ = some (.int .i64 p.w2) := HB2.out.cell 24
              have x25 : w2.cell? ⟨w.heap.size, 25, none⟩ = some (.int .i64 p.w3) := HB2.out.cell 25
              have x26 : w2.cell? ⟨w.heap.size, 26, none⟩ = some (.int .i64 p.w4) := HB2.out.cell 26
              have x27 : w2.cell? ⟨w.heap.size, 27, none⟩ = some (.int .i64 p.done) := HB2.out.cell 27
              have x28 : w2.cell? ⟨w.heap.size, 28, none⟩ = some (.int .i64 p.pfx) := HB2.out.cell 28
              clear hk hkk
              as_aux_lemma =>
                go_wp2_with (go_at_call 78; refine (goodStable_any _ _ _ _ _ _ _).mono ?_; rintro _ w3 ⟨rfl, hb3⟩; have H3 := Lib.hid hb3; clear hb3; go_simp)
                go_ret
                exact ⟨ret_bool HK.out.symm, Below.then HW2.out H3.out⟩
            · have HK : Hid (validB p D = frameB p.t1 p.t2 p.t3 p.t4 p.seq p.bn) := Lib.hid (by rw [HVK.out]; simp [kindB, hk])
              rw [hk] at x0
              have x29 : w2.cell? ⟨w.heap.size, 29, none⟩ = some (.int .i64 p.t1) := HB2.out.cell 29
              have x30 : w2.cell? ⟨w.heap.size, 30, none⟩ = some (.int .i64 p.t2) := HB2.out.cell 30
              have x31 : w2.cell? ⟨w.heap.size, 31, none⟩ = some (.int .i64 p.t3) := HB2.out.cell 31
              have x32 : w2.cell? ⟨w.heap.size, 32, none⟩ = some (.int .i64 p.t4) := HB2.out.cell 32
              have x33 : w2.cell? ⟨w.heap.size, 33, none⟩ = some (.int .i64 p.seq) := HB2.out.cell 33
              have x34 : w2.cell? ⟨w.heap.size, 34, none⟩ = some (.slice p.bA p.bn p.bc) := HB2.out.cell 34
              clear hk hkk
              as_aux_lemma =>
                go_wp2_with (go_at_call 79; refine (goodFrame_any _ _ _ _ _ _ _ _ _).mono ?_; rintro _ w3 ⟨rfl, hb3⟩; have H3 := Lib.hid hb3; clear hb3; go_simp)
                go_ret
                exact ⟨ret_bool HK.out.symm, Below.then HW2.out H3.out⟩
            · have HK : Hid (validB p D = ackB p.a1 p.a2 p.a3 p.a4 p.upto) := Lib.hid (by rw [HVK.out]; simp [kindB, hk])
              rw [hk] at x0
              have x35 : w2.cell? ⟨w.heap.size, 35, none⟩ = some (.int .i64 p.a1) := HB2.out.cell 35
              have x36 : w2.cell? ⟨w.heap.size, 36, none⟩ = some (.int .i64 p.a2) := HB2.out.cell 36
              have x37 : w2.cell? ⟨w.heap.size, 37, none⟩ = some (.int .i64 p.a3) := HB2.out.cell 37
              have x38 : w2.cell? ⟨w.heap.size, 38, none⟩ = some (.int .i64 p.a4) := HB2.out.cell 38
              have x39 : w2.cell? ⟨w.heap.size, 39, none⟩ = some (.int .i64 p.upto) := HB2.out.cell 39
              clear hk hkk
              as_aux_lemma =>
                go_wp2_with (go_at_call 80; refine (goodAck_any _ _ _ _ _ _).mono ?_; rintro _ w3 ⟨rfl, hb3⟩; have H3 := Lib.hid hb3; clear hb3; go_simp)
                go_ret
                exact ⟨ret_bool HK.out.symm, Below.then HW2.out H3.out⟩
            · have HK : Hid (validB p D = forwardB p.g1 p.g2 p.g3 p.g4 D.msgs) := Lib.hid (by rw [HVK.out]; simp [kindB, hk])
              rw [hk] at x0
              have x40 : w2.cell? ⟨w.heap.size, 40, none⟩ = some (.int .i64 p.g1) := HB2.out.cell 40
              have x41 : w2.cell? ⟨w.heap.size, 41, none⟩ = some (.int .i64 p.g2) := HB2.out.cell 41
              have x42 : w2.cell? ⟨w.heap.size, 42, none⟩ = some (.int .i64 p.g3) := HB2.out.cell 42
              have x43 : w2.cell? ⟨w.heap.size, 43, none⟩ = some (.int .i64 p.g4) := HB2.out.cell 43
              have x44 : w2.cell? ⟨w.heap.size, 44, none⟩ = some (.slice p.mA p.mn p.mc) := HB2.out.cell 44
              clear hk hkk
              as_aux_lemma =>
                go_wp2_with (go_at_call 81; refine (goodForward_any _ _ _ _ _ _ _ _ _ HI.out.rm HLE.out.lm).mono ?_; rintro _ w3 ⟨rfl, hb3⟩; have H3 := Lib.hid hb3; clear hb3; go_simp)
                go_ret
                exact ⟨ret_bool HK.out.symm, Below.then HW2.out H3.out⟩
          · have HVF : Hid (validB p D = false) := Lib.hid (valid_no (headB_foreign hkk))
            have f1 : (p.k == 1) = false := by simp; omega
            have f2 : (p.k == 2) = false := by simp; omega
            have f3 : (p.k == 3) = false := by simp; omega
            have f4 : (p.k == 4) = false := by simp; omega
            have f5 : (p.k == 5) = false := by simp; omega
            have f6 : (p.k == 6) = false := by simp; omega
            have f7 : (p.k == 7) = false := by simp; omega
            clear hkk
            as_aux_lemma =>
              go_wp2_with fail
              go_ret
              exact ⟨ret_bool HVF.out.symm, HW2.out⟩
end Go.Proofs.YtffcepaegcllmaaDoor
