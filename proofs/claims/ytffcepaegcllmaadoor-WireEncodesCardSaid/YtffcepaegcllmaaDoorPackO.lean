/-
  The reference's 'others': what must be empty beside the kind's own part.
-/
import Derived.Test.YtffcepaegcllmaaDoorPackD
import Derived.Deep.CutBlock
namespace Go.Proofs.YtffcepaegcllmaaDoor
open Go.RowKit
theorem ret_val {a b : Bool} (h : a = b) : Value.bool a = Value.bool b := by rw [h]
theorem others_last {p : Pk} (h1 : p.ok 1 = true) (h2 : p.ok 2 = true) (h3 : p.ok 3 = true) (h4 : p.ok 4 = true) (h5 : p.ok 5 = true) (h6 : p.ok 6 = true) : p.others = (decide (p.k = 7) || p.e7) := by
  have a1 : (decide (p.k = 1) || p.e1) = true := h1
  have a2 : (decide (p.k = 2) || p.e2) = true := h2
  have a3 : (decide (p.k = 3) || p.e3) = true := h3
  have a4 : (decide (p.k = 4) || p.e4) = true := h4
  have a5 : (decide (p.k = 5) || p.e5) = true := h5
  have a6 : (decide (p.k = 6) || p.e6) = true := h6
  unfold Pk.others
  rw [a1, a2, a3, a4, a5, a6]
  rfl
set_option maxRecDepth 100000 in
set_option maxHeartbeats 6400000 in
theorem others_any (p : Pk) (w : World) : Calls Tryd.prog 74 #[.agg p.cells] w fun r w' => r = .returned (.bool p.others) ∧ Below w.heap.size w w' := by
  go_enter Tryd.func74, Tryd.ntmps74
  go_upto_region 1 with fail
  obtain ⟨w0, hw0⟩ : ∃ x, x = w.alloc (.cells p.cells 45) := ⟨_, rfl⟩
  rw [← hw0]
  have HB0 : Hid (Blk w0 w.heap.size 45 p.cells) := Lib.hid (by rw [hw0]; exact Blk.new _ _ _)
  have HW0 : Hid (Below w.heap.size w w0) := Lib.hid (by rw [hw0]; exact one_box _ _)
  clear hw0
  have c0 : w0.cell? ⟨w.heap.size, 0, none⟩ = some (.int .i64 p.k) := HB0.out.cell 0
  go_upto_region 2 with fail
  clear c0
  have c5 : w0.cell? ⟨w.heap.size, 5, none⟩ = some (.int .i64 p.tk) := HB0.out.cell 5
  have c6 : w0.cell? ⟨w.heap.size, 6, none⟩ = some (.slice p.hA p.hn p.hc) := HB0.out.cell 6
  go_cut [3, 23] from 6 to 160 (fun k t wc => k = .int .i64 p.k ∧ t = .bool (!p.ok 1) ∧ Hid (Blk wc w.heap.size 45 p.cells ∧ Below w.heap.size w wc))
  case first =>
    as_aux_lemma =>
      go_wp2_with fail
      all_goals go_meet
      all_goals refine ⟨by simp_all, ret_val ?_, Lib.hid (by first | exact ⟨HB0.out, HW0.out⟩ | exact ⟨HB0.out.over HN.out, Below.then HW0.out HN.out⟩)⟩
      all_goals simp_all [Pk.ok, Pk.ek, Pk.e1] <;> first | omega | (rw [Bool.eq_iff_iff]; simp; done) | (rw [Bool.eq_iff_iff]; simp; omega) | (rw [Bool.eq_iff_iff]; simp_all; omega)
  case rest =>
    obtain ⟨rfl, rfl, HC1⟩ := hcut
    clear c5 c6
    apply_assumption
    obtain ⟨hb1, hw1⟩ := HC1.out
    have HB1 := Lib.hid hb1
    have HW1 := Lib.hid hw1
    clear hb1 hw1 HC1
    cases h1 : p.ok 1 with
    | false =>
      have HO := Lib.hid (others_no (by omega) (by omega) h1)
      as_aux_lemma =>
        go_wp2_with fail
        go_ret
        exact ⟨ret_bool HO.out.symm, HW1.out⟩
    | true =>
      have H1 := Lib.hid h1
      clear h1
      rename World => x1
      have c7 : x1.cell? ⟨w.heap.size, 7, none⟩ = some (.slice p.pA p.pn p.pc) := HB1.out.cell 7
      have c8 : x1.cell? ⟨w.heap.size, 8, none⟩ = some (.int .i64 p.cid) := HB1.out.cell 8
      have c9 : x1.cell? ⟨w.heap.size, 9, none⟩ = some (.int .i64 p.rev) := HB1.out.cell 9
      have c10 : x1.cell? ⟨w.heap.size, 10, none⟩ = some (.int .i64 p.top) := HB1.out.cell 10
      have c11 : x1.cell? ⟨w.heap.size, 11, none⟩ = some (.int .i64 p.p1) := HB1.out.cell 11
      have c12 : x1.cell? ⟨w.heap.size, 12, none⟩ = some (.int .i64 p.p2) := HB1.out.cell 12
      have c13 : x1.cell? ⟨w.heap.size, 13, none⟩ = some (.int .i64 p.p3) := HB1.out.cell 13
      have c14 : x1.cell? ⟨w.heap.size, 14, none⟩ = some (.int .i64 p.p4) := HB1.out.cell 14
      have c15 : x1.cell? ⟨w.heap.size, 15, none⟩ = some (.slice p.vA p.vn p.vc) := HB1.out.cell 15
      go_upto_region 5 with fail
      clear c7 c8 c9 c10 c11 c12 c13 c14 c15
      obtain ⟨v2, hv2⟩ : ∃ x, x = x1.alloc (.cells #[.slice p.pA p.pn p.pc, .int .i64 p.cid, .int .i64 p.rev, .int .i64 p.top, .int .i64 p.p1, .int .i64 p.p2, .int .i64 p.p3, .int .i64 p.p4, .slice p.vA p.vn p.vc] 30) := ⟨_, rfl⟩
      rw [← hv2]
      have HX2 : Hid (Blk v2 x1.heap.size 30 #[.slice p.pA p.pn p.pc, .int .i64 p.cid, .int .i64 p.rev, .int .i64 p.top, .int .i64 p.p1, .int .i64 p.p2, .int .i64 p.p3, .int .i64 p.p4, .slice p.vA p.vn p.vc]) := Lib.hid (by rw [hv2]; exact Blk.new _ _ _)
      have HBv2 : Hid (Blk v2 w.heap.size 45 p.cells) := Lib.hid (by rw [hv2]; exact HB1.out.alloc _)
      have HWv2 : Hid (Below w.heap.size w v2) := Lib.hid (by rw [hv2]; exact HW1.out.alloc HW1.out.size _)
      clear hv2
      have d7 : v2.cell? ⟨x1.heap.size, 0, none⟩ = some (.slice p.pA p.pn p.pc) := HX2.out.cell 0
      have d8 : v2.cell? ⟨x1.heap.size, 1, none⟩ = some (.int .i64 p.cid) := HX2.out.cell 1
      have d9 : v2.cell? ⟨x1.heap.size, 2, none⟩ = some (.int .i64 p.rev) := HX2.out.cell 2
      have d10 : v2.cell? ⟨x1.heap.size, 3, none⟩ = some (.int .i64 p.top) := HX2.out.cell 3
      have d11 : v2.cell? ⟨x1.heap.size, 4, none⟩ = some (.int .i64 p.p1) := HX2.out.cell 4
      have d12 : v2.cell? ⟨x1.heap.size, 5, none⟩ = some (.int .i64 p.p2) := HX2.out.cell 5
      have d13 : v2.cell? ⟨x1.heap.size, 6, none⟩ = some (.int .i64 p.p3) := HX2.out.cell 6
      have d14 : v2.cell? ⟨x1.heap.size, 7, none⟩ = some (.int .i64 p.p4) := HX2.out.cell 7
      have d15 : v2.cell? ⟨x1.heap.size, 8, none⟩ = some (.slice p.vA p.vn p.vc) := HX2.out.cell 8
      go_cut [3, 60] from 6 to 160 (fun k t wc => k = .int .i64 p.k ∧ t = .bool (!p.ok 2) ∧ Hid (Blk wc w.heap.size 45 p.cells ∧ Below w.heap.size w wc))
      case first =>
        as_aux_lemma =>
          go_wp2_with (go_at_call 121; refine (None_any _ _ _ _ _).mono ?_; rintro _ wN ⟨rfl, hbN⟩; have HN := Lib.hid hbN; clear hbN; have e7 : wN.cell? ⟨x1.heap.size, 0, none⟩ = some (.slice p.pA p.pn p.pc) := (HX2.out.over HN.out).cell 0; have e8 : wN.cell? ⟨x1.heap.size, 1, none⟩ = some (.int .i64 p.cid) := (HX2.out.over HN.out).cell 1; have e9 : wN.cell? ⟨x1.heap.size, 2, none⟩ = some (.int .i64 p.rev) := (HX2.out.over HN.out).cell 2; have e10 : wN.cell? ⟨x1.heap.size, 3, none⟩ = some (.int .i64 p.top) := (HX2.out.over HN.out).cell 3; have e11 : wN.cell? ⟨x1.heap.size, 4, none⟩ = some (.int .i64 p.p1) := (HX2.out.over HN.out).cell 4; have e12 : wN.cell? ⟨x1.heap.size, 5, none⟩ = some (.int .i64 p.p2) := (HX2.out.over HN.out).cell 5; have e13 : wN.cell? ⟨x1.heap.size, 6, none⟩ = some (.int .i64 p.p3) := (HX2.out.over HN.out).cell 6; have e14 : wN.cell? ⟨x1.heap.size, 7, none⟩ = some (.int .i64 p.p4) := (HX2.out.over HN.out).cell 7; have e15 : wN.cell? ⟨x1.heap.size, 8, none⟩ = some (.slice p.vA p.vn p.vc) := (HX2.out.over HN.out).cell 8; go_simp)
          all_goals go_meet
          all_goals refine ⟨by simp_all, ret_val ?_, Lib.hid (by first | exact ⟨HBv2.out, HWv2.out⟩ | exact ⟨HBv2.out.over HN.out, Below.then HWv2.out HN.out⟩)⟩
          all_goals simp_all [Pk.ok, Pk.ek, Pk.e2, noneB] <;> first | omega | (rw [Bool.eq_iff_iff]; simp; done) | (rw [Bool.eq_iff_iff]; simp; omega) | (rw [Bool.eq_iff_iff]; simp_all; omega)
      case rest =>
        obtain ⟨rfl, rfl, HC2⟩ := hcut
        clear d7 d8 d9 d10 d11 d12 d13 d14 d15
        apply_assumption
        obtain ⟨hb2, hw2⟩ := HC2.out
        have HB2 := Lib.hid hb2
        have HW2 := Lib.hid hw2
        clear hb2 hw2 HC2
        cases h2 : p.ok 2 with
        | false =>
          have HO := Lib.hid (others_no (by omega) (by omega) h2)
          as_aux_lemma =>
            go_wp2_with fail
            go_ret
            exact ⟨ret_bool HO.out.symm, HW2.out⟩
        | true =>
          have H2 := Lib.hid h2
          clear h2
          rename World => x2
          have c16 : x2.cell? ⟨w.heap.size, 16, none⟩ = some (.int .i64 p.f1) := HB2.out.cell 16
          have c17 : x2.cell? ⟨w.heap.size, 17, none⟩ = some (.int .i64 p.f2) := HB2.out.cell 17
          have c18 : x2.cell? ⟨w.heap.size, 18, none⟩ = some (.int .i64 p.f3) := HB2.out.cell 18
          have c19 : x2.cell? ⟨w.heap.size, 19, none⟩ = some (.int .i64 p.f4) := HB2.out.cell 19
          have c20 : x2.cell? ⟨w.heap.size, 20, none⟩ = some (.int .i64 p.base) := HB2.out.cell 20
          have c21 : x2.cell? ⟨w.heap.size, 21, none⟩ = some (.slice p.sA p.sn p.sc) := HB2.out.cell 21
          have c22 : x2.cell? ⟨w.heap.size, 22, none⟩ = some (.slice p.eA p.en p.ec) := HB2.out.cell 22
          go_upto_region 8 with fail
          clear c16 c17 c18 c19 c20 c21 c22
          obtain ⟨v3, hv3⟩ : ∃ x, x = x2.alloc (.cells #[.int .i64 p.f1, .int .i64 p.f2, .int .i64 p.f3, .int .i64 p.f4, .int .i64 p.base, .slice p.sA p.sn p.sc, .slice p.eA p.en p.ec] 33) := ⟨_, rfl⟩
          rw [← hv3]
          have HX3 : Hid (Blk v3 x2.heap.size 33 #[.int .i64 p.f1, .int .i64 p.f2, .int .i64 p.f3, .int .i64 p.f4, .int .i64 p.base, .slice p.sA p.sn p.sc, .slice p.eA p.en p.ec]) := Lib.hid (by rw [hv3]; exact Blk.new _ _ _)
          have HBv3 : Hid (Blk v3 w.heap.size 45 p.cells) := Lib.hid (by rw [hv3]; exact HB2.out.alloc _)
          have HWv3 : Hid (Below w.heap.size w v3) := Lib.hid (by rw [hv3]; exact HW2.out.alloc HW2.out.size _)
          clear hv3
          have d16 : v3.cell? ⟨x2.heap.size, 0, none⟩ = some (.int .i64 p.f1) := HX3.out.cell 0
          have d17 : v3.cell? ⟨x2.heap.size, 1, none⟩ = some (.int .i64 p.f2) := HX3.out.cell 1
          have d18 : v3.cell? ⟨x2.heap.size, 2, none⟩ = some (.int .i64 p.f3) := HX3.out.cell 2
          have d19 : v3.cell? ⟨x2.heap.size, 3, none⟩ = some (.int .i64 p.f4) := HX3.out.cell 3
          have d20 : v3.cell? ⟨x2.heap.size, 4, none⟩ = some (.int .i64 p.base) := HX3.out.cell 4
          have d21 : v3.cell? ⟨x2.heap.size, 5, none⟩ = some (.slice p.sA p.sn p.sc) := HX3.out.cell 5
          have d22 : v3.cell? ⟨x2.heap.size, 6, none⟩ = some (.slice p.eA p.en p.ec) := HX3.out.cell 6
          go_cut [3, 87] from 6 to 160 (fun k t wc => k = .int .i64 p.k ∧ t = .bool (!p.ok 3) ∧ Hid (Blk wc w.heap.size 45 p.cells ∧ Below w.heap.size w wc))
          case first =>
            as_aux_lemma =>
              go_wp2_with (go_at_call 121; refine (None_any _ _ _ _ _).mono ?_; rintro _ wN ⟨rfl, hbN⟩; have HN := Lib.hid hbN; clear hbN; have e16 : wN.cell? ⟨x2.heap.size, 0, none⟩ = some (.int .i64 p.f1) := (HX3.out.over HN.out).cell 0; have e17 : wN.cell? ⟨x2.heap.size, 1, none⟩ = some (.int .i64 p.f2) := (HX3.out.over HN.out).cell 1; have e18 : wN.cell? ⟨x2.heap.size, 2, none⟩ = some (.int .i64 p.f3) := (HX3.out.over HN.out).cell 2; have e19 : wN.cell? ⟨x2.heap.size, 3, none⟩ = some (.int .i64 p.f4) := (HX3.out.over HN.out).cell 3; have e20 : wN.cell? ⟨x2.heap.size, 4, none⟩ = some (.int .i64 p.base) := (HX3.out.over HN.out).cell 4; have e21 : wN.cell? ⟨x2.heap.size, 5, none⟩ = some (.slice p.sA p.sn p.sc) := (HX3.out.over HN.out).cell 5; have e22 : wN.cell? ⟨x2.heap.size, 6, none⟩ = some (.slice p.eA p.en p.ec) := (HX3.out.over HN.out).cell 6; go_simp)
              all_goals go_meet
              all_goals refine ⟨by simp_all, ret_val ?_, Lib.hid (by first | exact ⟨HBv3.out, HWv3.out⟩ | exact ⟨HBv3.out.over HN.out, Below.then HWv3.out HN.out⟩)⟩
              all_goals simp_all [Pk.ok, Pk.ek, Pk.e3, noneB] <;> first | omega | (rw [Bool.eq_iff_iff]; simp; done) | (rw [Bool.eq_iff_iff]; simp; omega) | (rw [Bool.eq_iff_iff]; simp_all; omega)
          case rest =>
            obtain ⟨rfl, rfl, HC3⟩ := hcut
            clear d16 d17 d18 d19 d20 d21 d22
            apply_assumption
            obtain ⟨hb3, hw3⟩ := HC3.out
            have HB3 := Lib.hid hb3
            have HW3 := Lib.hid hw3
            clear hb3 hw3 HC3
            cases h3 : p.ok 3 with
            | false =>
              have HO := Lib.hid (others_no (by omega) (by omega) h3)
              as_aux_lemma =>
                go_wp2_with fail
                go_ret
                exact ⟨ret_bool HO.out.symm, HW3.out⟩
            | true =>
              have H3 := Lib.hid h3
              clear h3
              rename World => x3
              go_upto_region 10 with fail
              have c23 : x3.cell? ⟨w.heap.size, 23, none⟩ = some (.int .i64 p.w1) := HB3.out.cell 23
              have c24 : x3.cell? ⟨w.heap.size, 24, none⟩ = some (.int .i64 p.w2) := HB3.out.cell 24
              have c25 : x3.cell? ⟨w.heap.size, 25, none⟩ = some (.int .i64 p.w3) := HB3.out.cell 25
              have c26 : x3.cell? ⟨w.heap.size, 26, none⟩ = some (.int .i64 p.w4) := HB3.out.cell 26
              have c27 : x3.cell? ⟨w.heap.size, 27, none⟩ = some (.int .i64 p.done) := HB3.out.cell 27
              have c28 : x3.cell? ⟨w.heap.size, 28, none⟩ = some (.int .i64 p.pfx) := HB3.out.cell 28
              go_cut [3, 108] from 6 to 160 (fun k t wc => k = .int .i64 p.k ∧ t = .bool (!p.ok 4) ∧ Hid (Blk wc w.heap.size 45 p.cells ∧ Below w.heap.size w wc))
              case first =>
                as_aux_lemma =>
                  go_wp2_with (go_at_call 121; refine (None_any _ _ _ _ _).mono ?_; rintro _ wN ⟨rfl, hbN⟩; have HN := Lib.hid hbN; clear hbN; have e23 : wN.cell? ⟨w.heap.size, 23, none⟩ = some (.int .i64 p.w1) := (HB3.out.over HN.out).cell 23; have e24 : wN.cell? ⟨w.heap.size, 24, none⟩ = some (.int .i64 p.w2) := (HB3.out.over HN.out).cell 24; have e25 : wN.cell? ⟨w.heap.size, 25, none⟩ = some (.int .i64 p.w3) := (HB3.out.over HN.out).cell 25; have e26 : wN.cell? ⟨w.heap.size, 26, none⟩ = some (.int .i64 p.w4) := (HB3.out.over HN.out).cell 26; have e27 : wN.cell? ⟨w.heap.size, 27, none⟩ = some (.int .i64 p.done) := (HB3.out.over HN.out).cell 27; have e28 : wN.cell? ⟨w.heap.size, 28, none⟩ = some (.int .i64 p.pfx) := (HB3.out.over HN.out).cell 28; go_simp)
                  all_goals go_meet
                  all_goals refine ⟨by simp_all, ret_val ?_, Lib.hid (by first | exact ⟨HB3.out, HW3.out⟩ | exact ⟨HB3.out.over HN.out, Below.then HW3.out HN.out⟩)⟩
                  all_goals simp_all [Pk.ok, Pk.ek, Pk.e4, noneB] <;> first | omega | (rw [Bool.eq_iff_iff]; simp; done) | (rw [Bool.eq_iff_iff]; simp; omega) | (rw [Bool.eq_iff_iff]; simp_all; omega)
              case rest =>
                obtain ⟨rfl, rfl, HC4⟩ := hcut
                clear c23 c24 c25 c26 c27 c28
                apply_assumption
                obtain ⟨hb4, hw4⟩ := HC4.out
                have HB4 := Lib.hid hb4
                have HW4 := Lib.hid hw4
                clear hb4 hw4 HC4
                cases h4 : p.ok 4 with
                | false =>
                  have HO := Lib.hid (others_no (by omega) (by omega) h4)
                  as_aux_lemma =>
                    go_wp2_with fail
                    go_ret
                    exact ⟨ret_bool HO.out.symm, HW4.out⟩
                | true =>
                  have H4 := Lib.hid h4
                  clear h4
                  rename World => x4
                  go_upto_region 12 with fail
                  have c29 : x4.cell? ⟨w.heap.size, 29, none⟩ = some (.int .i64 p.t1) := HB4.out.cell 29
                  have c30 : x4.cell? ⟨w.heap.size, 30, none⟩ = some (.int .i64 p.t2) := HB4.out.cell 30
                  have c31 : x4.cell? ⟨w.heap.size, 31, none⟩ = some (.int .i64 p.t3) := HB4.out.cell 31
                  have c32 : x4.cell? ⟨w.heap.size, 32, none⟩ = some (.int .i64 p.t4) := HB4.out.cell 32
                  have c33 : x4.cell? ⟨w.heap.size, 33, none⟩ = some (.int .i64 p.seq) := HB4.out.cell 33
                  have c34 : x4.cell? ⟨w.heap.size, 34, none⟩ = some (.slice p.bA p.bn p.bc) := HB4.out.cell 34
                  go_cut [3, 130] from 6 to 160 (fun k t wc => k = .int .i64 p.k ∧ t = .bool (!p.ok 5) ∧ Hid (Blk wc w.heap.size 45 p.cells ∧ Below w.heap.size w wc))
                  case first =>
                    as_aux_lemma =>
                      go_wp2_with (go_at_call 121; refine (None_any _ _ _ _ _).mono ?_; rintro _ wN ⟨rfl, hbN⟩; have HN := Lib.hid hbN; clear hbN; have e29 : wN.cell? ⟨w.heap.size, 29, none⟩ = some (.int .i64 p.t1) := (HB4.out.over HN.out).cell 29; have e30 : wN.cell? ⟨w.heap.size, 30, none⟩ = some (.int .i64 p.t2) := (HB4.out.over HN.out).cell 30; have e31 : wN.cell? ⟨w.heap.size, 31, none⟩ = some (.int .i64 p.t3) := (HB4.out.over HN.out).cell 31; have e32 : wN.cell? ⟨w.heap.size, 32, none⟩ = some (.int .i64 p.t4) := (HB4.out.over HN.out).cell 32; have e33 : wN.cell? ⟨w.heap.size, 33, none⟩ = some (.int .i64 p.seq) := (HB4.out.over HN.out).cell 33; have e34 : wN.cell? ⟨w.heap.size, 34, none⟩ = some (.slice p.bA p.bn p.bc) := (HB4.out.over HN.out).cell 34; go_simp)
                      all_goals go_meet
                      all_goals refine ⟨by simp_all, ret_val ?_, Lib.hid (by first | exact ⟨HB4.out, HW4.out⟩ | exact ⟨HB4.out.over HN.out, Below.then HW4.out HN.out⟩)⟩
                      all_goals simp_all [Pk.ok, Pk.ek, Pk.e5, noneB] <;> first | omega | (rw [Bool.eq_iff_iff]; simp; done) | (rw [Bool.eq_iff_iff]; simp; omega) | (rw [Bool.eq_iff_iff]; simp_all; omega)
                  case rest =>
                    obtain ⟨rfl, rfl, HC5⟩ := hcut
                    clear c29 c30 c31 c32 c33 c34
                    apply_assumption
                    obtain ⟨hb5, hw5⟩ := HC5.out
                    have HB5 := Lib.hid hb5
                    have HW5 := Lib.hid hw5
                    clear hb5 hw5 HC5
                    cases h5 : p.ok 5 with
                    | false =>
                      have HO := Lib.hid (others_no (by omega) (by omega) h5)
                      as_aux_lemma =>
                        go_wp2_with fail
                        go_ret
                        exact ⟨ret_bool HO.out.symm, HW5.out⟩
                    | true =>
                      have H5 := Lib.hid h5
                      clear h5
                      rename World => x5
                      go_upto_region 14 with fail
                      have c35 : x5.cell? ⟨w.heap.size, 35, none⟩ = some (.int .i64 p.a1) := HB5.out.cell 35
                      have c36 : x5.cell? ⟨w.heap.size, 36, none⟩ = some (.int .i64 p.a2) := HB5.out.cell 36
                      have c37 : x5.cell? ⟨w.heap.size, 37, none⟩ = some (.int .i64 p.a3) := HB5.out.cell 37
                      have c38 : x5.cell? ⟨w.heap.size, 38, none⟩ = some (.int .i64 p.a4) := HB5.out.cell 38
                      have c39 : x5.cell? ⟨w.heap.size, 39, none⟩ = some (.int .i64 p.upto) := HB5.out.cell 39
                      go_cut [3, 145] from 6 to 160 (fun k t wc => k = .int .i64 p.k ∧ t = .bool (!p.ok 6) ∧ Hid (Blk wc w.heap.size 45 p.cells ∧ Below w.heap.size w wc))
                      case first =>
                        as_aux_lemma =>
                          go_wp2_with (go_at_call 121; refine (None_any _ _ _ _ _).mono ?_; rintro _ wN ⟨rfl, hbN⟩; have HN := Lib.hid hbN; clear hbN; have e35 : wN.cell? ⟨w.heap.size, 35, none⟩ = some (.int .i64 p.a1) := (HB5.out.over HN.out).cell 35; have e36 : wN.cell? ⟨w.heap.size, 36, none⟩ = some (.int .i64 p.a2) := (HB5.out.over HN.out).cell 36; have e37 : wN.cell? ⟨w.heap.size, 37, none⟩ = some (.int .i64 p.a3) := (HB5.out.over HN.out).cell 37; have e38 : wN.cell? ⟨w.heap.size, 38, none⟩ = some (.int .i64 p.a4) := (HB5.out.over HN.out).cell 38; have e39 : wN.cell? ⟨w.heap.size, 39, none⟩ = some (.int .i64 p.upto) := (HB5.out.over HN.out).cell 39; go_simp)
                          all_goals go_meet
                          all_goals refine ⟨by simp_all, ret_val ?_, Lib.hid (by first | exact ⟨HB5.out, HW5.out⟩ | exact ⟨HB5.out.over HN.out, Below.then HW5.out HN.out⟩)⟩
                          all_goals simp_all [Pk.ok, Pk.ek, Pk.e6, noneB] <;> first | omega | (rw [Bool.eq_iff_iff]; simp; done) | (rw [Bool.eq_iff_iff]; simp; omega) | (rw [Bool.eq_iff_iff]; simp_all; omega)
                      case rest =>
                        obtain ⟨rfl, rfl, HC6⟩ := hcut
                        clear c35 c36 c37 c38 c39
                        apply_assumption
                        obtain ⟨hb6, hw6⟩ := HC6.out
                        have HB6 := Lib.hid hb6
                        have HW6 := Lib.hid hw6
                        clear hb6 hw6 HC6
                        cases h6 : p.ok 6 with
                        | false =>
                          have HO := Lib.hid (others_no (by omega) (by omega) h6)
                          as_aux_lemma =>
                            go_wp2_with fail
                            go_ret
                            exact ⟨ret_bool HO.out.symm, HW6.out⟩
                        | true =>
                          have H6 := Lib.hid h6
                          clear h6
                          rename World => x6
                          go_upto_region 16 with fail
                          have c40 : x6.cell? ⟨w.heap.size, 40, none⟩ = some (.int .i64 p.g1) := HB6.out.cell 40
                          have c41 : x6.cell? ⟨w.heap.size, 41, none⟩ = some (.int .i64 p.g2) := HB6.out.cell 41
                          have c42 : x6.cell? ⟨w.heap.size, 42, none⟩ = some (.int .i64 p.g3) := HB6.out.cell 42
                          have c43 : x6.cell? ⟨w.heap.size, 43, none⟩ = some (.int .i64 p.g4) := HB6.out.cell 43
                          have c44 : x6.cell? ⟨w.heap.size, 44, none⟩ = some (.slice p.mA p.mn p.mc) := HB6.out.cell 44
                          have HO : Hid (p.others = (decide (p.k = 7) || p.e7)) := Lib.hid (others_last H1.out H2.out H3.out H4.out H5.out H6.out)
                          as_aux_lemma =>
                            go_wp2_with (go_at_call 121; refine (None_any _ _ _ _ _).mono ?_; rintro _ wN ⟨rfl, hbN⟩; have HN := Lib.hid hbN; clear hbN; have e40 : wN.cell? ⟨w.heap.size, 40, none⟩ = some (.int .i64 p.g1) := (HB6.out.over HN.out).cell 40; have e41 : wN.cell? ⟨w.heap.size, 41, none⟩ = some (.int .i64 p.g2) := (HB6.out.over HN.out).cell 41; have e42 : wN.cell? ⟨w.heap.size, 42, none⟩ = some (.int .i64 p.g3) := (HB6.out.over HN.out).cell 42; have e43 : wN.cell? ⟨w.heap.size, 43, none⟩ = some (.int .i64 p.g4) := (HB6.out.over HN.out).cell 43; have e44 : wN.cell? ⟨w.heap.size, 44, none⟩ = some (.slice p.mA p.mn p.mc) := (HB6.out.over HN.out).cell 44; go_simp)
                            all_goals go_ret
                            all_goals refine ⟨ret_bool ?_, by first | exact HW6.out | exact Below.then HW6.out HN.out⟩
                            all_goals rw [HO.out]
                            all_goals simp_all [Pk.e7, noneB] <;> first | omega | (rw [Bool.eq_iff_iff]; simp; done) | (rw [Bool.eq_iff_iff]; simp; omega) | (rw [Bool.eq_iff_iff]; simp_all; omega)
end Go.Proofs.YtffcepaegcllmaaDoor
