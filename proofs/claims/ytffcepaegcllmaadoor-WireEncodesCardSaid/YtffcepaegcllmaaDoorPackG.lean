/-
  The program's 'valid' and 'Check'.
-/
import Derived.Test.YtffcepaegcllmaaDoorPackD
import Derived.Deep.CutBlock
namespace Go.Proofs.YtffcepaegcllmaaDoor
open Go.RowKit
theorem wpList_load_on {P : Program} {ops : Array Oper} {rest : List Oper} {o : Oper} {a : Act} {w : World} {Q : Exit → Act → World → Prop} (hw : Region.wanted o (yielded ops a.tmps) = true) (ty : TypeId) (x : Operand) (ho : o.op = .load ty x)
    (g : Nat) (hx : a.eval x = .pointer (some ⟨g, 0, none⟩)) (t : TypeId) (cs : Array Value) (fr : Nat × Nat) (d : TypeDesc) (hg : w.heap[g]? = some (.cells cs t fr))
    (hu : P.underlying ty = some d) (hd : (match d with | .struct _ | .array _ _ => true | _ => false) = true) (hi : (P.info? ty).map (·.size) = some cs.size)
    (h : wpList P ops Q rest (a.put o.dst (.agg cs)) w) : wpList P ops Q (o :: rest) a w :=
  wpList_step fun _ hK => by simp only [hw, if_true]; exact wp_load_row ty x ho g hx t cs fr d hg hu hd hi (hK _ _ h)
/-- The error's number. -/
def codeB (b : Bool) : Int := if b then 0 else 16
theorem head_kind {p : Pk} (h : headB p.k p.s p.si p.d p.di = true) : p.k = 1 ∨ p.k = 2 ∨ p.k = 3 ∨ p.k = 4 ∨ p.k = 5 ∨ p.k = 6 ∨ p.k = 7 := by
  simp only [headB, Bool.and_eq_true, decide_eq_true_eq] at h
  omega
set_option maxRecDepth 100000 in
set_option maxHeartbeats 6400000 in
theorem valid_any (p : Pk) (D : PkD) (w : World) (hin : PkIn w w.heap.size p D) (hle : PkLe p) : Calls Tryd.prog 38 #[.agg p.cells] w fun r w' => r = .returned (.bool (validB p D)) ∧ Below w.heap.size w w' := by
  have HIN := Lib.hid hin
  have HLE := Lib.hid hle
  clear hin hle
  go_enter Tryd.func38, Tryd.ntmps38
  go_upto_region 1 with fail
  obtain ⟨w0, hw0⟩ : ∃ x, x = w.alloc (.cells p.cells 45) := ⟨_, rfl⟩
  rw [← hw0]
  have HB : Hid (Blk w0 w.heap.size 45 p.cells) := Lib.hid (by rw [hw0]; exact Blk.new _ _ _)
  have HBW : Hid (Below w.heap.size w w0) := Lib.hid (by rw [hw0]; exact one_box _ _)
  clear hw0
  have HV := Lib.hid (validHead_any p.k p.s p.si p.d p.di w0)
  have c0 : w0.cell? ⟨w.heap.size, 0, none⟩ = some (.int .i64 p.k) := HB.out.cell 0
  have c1 : w0.cell? ⟨w.heap.size, 1, none⟩ = some (.int .i64 p.s) := HB.out.cell 1
  have c2 : w0.cell? ⟨w.heap.size, 2, none⟩ = some (.int .i64 p.si) := HB.out.cell 2
  have c3 : w0.cell? ⟨w.heap.size, 3, none⟩ = some (.int .i64 p.d) := HB.out.cell 3
  have c4 : w0.cell? ⟨w.heap.size, 4, none⟩ = some (.int .i64 p.di) := HB.out.cell 4
  cases hh : headB p.k p.s p.si p.d p.di with
  | false =>
    rw [hh] at HV
    have HVF : Hid (validB p D = false) := Lib.hid (by simp [validB, hh])
    as_aux_lemma =>
      go_wp2_with (go_at_call 88; refine HV.out.mono ?_; rintro _ w1 ⟨rfl, hb1⟩; have H1 := Lib.hid hb1; clear hb1; go_simp)
      go_ret
      exact ⟨ret_bool HVF.out.symm, Below.then HBW.out H1.out⟩
  | true =>
    rw [hh] at HV
    have HH := Lib.hid hh
    clear hh
    go_upto_region 3 with (go_at_call 88; refine HV.out.mono ?_; rintro _ w1 ⟨rfl, hb1⟩; have H1 := Lib.hid hb1; clear hb1; go_simp)
    have HB1 := Lib.hid (HB.out.over H1.out)
    have HW1 := Lib.hid (Below.then HBW.out H1.out)
    clear c0 c1 c2 c3 c4 HV
    go_wp2_with fail
    go_loopw [3] (fun i wr => ∃ j : Nat, 1 ≤ j ∧ j ≤ 8 ∧ i = .int .i64 (j : Int) ∧ Hid ((∀ m, 1 ≤ m → m < j → p.ok m = true) ∧ Blk wr w.heap.size 45 p.cells ∧ Below w.heap.size w wr)) (fun i _ => 8 - (intOf i).toNat)
    case atStart => exact ⟨1, by omega, by omega, rfl, Lib.hid ⟨fun m h1 h2 => by omega, HB1.out, HW1.out⟩⟩
    case round =>
      obtain ⟨j, h1, h8, rfl, HJ⟩ := hrel
      have HBr := Lib.hid HJ.out.2.1
      have HWr := Lib.hid HJ.out.2.2
      by_cases hlt : j ≤ 7
      · have hI : (j : Int) ≤ 7 := by omega
        have y0 : wr.cell? ⟨w.heap.size, 0, none⟩ = some (.int .i64 p.k) := HBr.out.cell 0
        have HE := Lib.hid (empty_any p j h1 (by omega) wr)
        cases hj : p.ok j with
        | true =>
          by_cases hk : p.k = (j : Int)
          · have hne : ((j : Int) != p.k) = false := by rw [hk]; simp
            have HJK := Lib.hid (And.intro hk hj)
            clear hk hj
            as_aux_lemma =>
              go_wp2_with fail
              go_roundw
              case rel => exact ⟨j + 1, by omega, by omega, by go_num, Lib.hid ⟨fun m a b => by
                by_cases hm : m = j
                · rw [hm]; exact HJK.out.2
                · exact HJ.out.1 m a (by omega), HBr.out, HWr.out⟩⟩
              case measure => simp [intOf] <;> omega
          · have hne : ((j : Int) != p.k) = true := by simpa using fun e : (j : Int) = p.k => hk e.symm
            have he : p.ek j = true := by simpa [Pk.ok, hk] using hj
            rw [he] at HE
            have HJK := Lib.hid hj
            clear hk hj he
            as_aux_lemma =>
              go_wp2_with (first | (refine wpList_load_on (by rfl) 45 _ (by rfl) w.heap.size (by rfl) 45 p.cells (0, 0) _ HBr.out Tryd.underlying45 rfl (by kernel_rfl) ?_; simp only [Act.put, List.setIfInBounds_toArray, List.set_cons_zero, List.set_cons_succ]) | (go_at_call 89; refine HE.out.mono ?_; rintro _ w2 ⟨rfl, hb2⟩; have H2 := Lib.hid hb2; clear hb2; go_simp))
              go_roundw
              case rel => exact ⟨j + 1, by omega, by omega, by go_num, Lib.hid ⟨fun m a b => by
                by_cases hm : m = j
                · rw [hm]; exact HJK.out
                · exact HJ.out.1 m a (by omega), HBr.out.over H2.out, Below.then HWr.out H2.out⟩⟩
              case measure => simp [intOf] <;> omega
        | false =>
          have hk : ¬ p.k = (j : Int) := fun e => by simp [Pk.ok, e] at hj
          have hne : ((j : Int) != p.k) = true := by simpa using fun e : (j : Int) = p.k => hk e.symm
          have he : p.ek j = false := by simpa [Pk.ok, hk] using hj
          rw [he] at HE
          have HVF : Hid (validB p D = false) := Lib.hid (by simp [validB, others_no h1 (by omega) hj])
          clear hk hj he
          as_aux_lemma =>
            go_wp2_with (first | (refine wpList_load_on (by rfl) 45 _ (by rfl) w.heap.size (by rfl) 45 p.cells (0, 0) _ HBr.out Tryd.underlying45 rfl (by kernel_rfl) ?_; simp only [Act.put, List.setIfInBounds_toArray, List.set_cons_zero, List.set_cons_succ]) | (go_at_call 89; refine HE.out.mono ?_; rintro _ w2 ⟨rfl, hb2⟩; have H2 := Lib.hid hb2; clear hb2; go_simp))
            go_ret
            exact ⟨ret_bool HVF.out.symm, Below.then HWr.out H2.out⟩
      · obtain rfl : j = 8 := by omega
        have HVK : Hid (validB p D = kindB p D) := Lib.hid (by simp [validB, HH.out, (others_iff p).2 HJ.out.1])
        have HI := Lib.hid ((HIN.out.below HWr.out).more HWr.out.size)
        have x0 : wr.cell? ⟨w.heap.size, 0, none⟩ = some (.int .i64 p.k) := HBr.out.cell 0
        rcases head_kind HH.out with hk | hk | hk | hk | hk | hk | hk
        · have HK : Hid (validB p D = beatB p.tk D.hears) := Lib.hid (by rw [HVK.out]; simp [kindB, hk])
          rw [hk] at x0
          have x5 : wr.cell? ⟨w.heap.size, 5, none⟩ = some (.int .i64 p.tk) := HBr.out.cell 5
          have x6 : wr.cell? ⟨w.heap.size, 6, none⟩ = some (.slice p.hA p.hn p.hc) := HBr.out.cell 6
          clear hk
          as_aux_lemma =>
            go_wp2_with (first | (go_at_call 90; refine (count_any _ _ _).mono ?_; rintro _ _ ⟨rfl, rfl⟩; go_simp) | (go_at_call 91; refine (vcounts_any _ _ _ _ _ _ HI.out.rh (by have := HLE.out.lh; omega)).mono ?_; rintro _ _ ⟨rfl, rfl⟩; go_simp))
            all_goals go_ret
            all_goals refine ⟨ret_bool ?_, by first | exact HWr.out | exact Below.then HWr.out H2.out⟩
            all_goals rw [HK.out]
            all_goals simp_all [beatB] <;> first | omega | (rw [Bool.eq_iff_iff]; simp; done) | (rw [Bool.eq_iff_iff]; simp; omega) | (rw [Bool.eq_iff_iff]; simp_all; omega)
        · have HK : Hid (validB p D = propB D.set p.cid p.rev p.top p.p1 p.p2 p.p3 p.p4 D.vec) := Lib.hid (by rw [HVK.out]; simp [kindB, hk])
          rw [hk] at x0
          have x7 : wr.cell? ⟨w.heap.size, 7, none⟩ = some (.slice p.pA p.pn p.pc) := HBr.out.cell 7
          have x8 : wr.cell? ⟨w.heap.size, 8, none⟩ = some (.int .i64 p.cid) := HBr.out.cell 8
          have x9 : wr.cell? ⟨w.heap.size, 9, none⟩ = some (.int .i64 p.rev) := HBr.out.cell 9
          have x10 : wr.cell? ⟨w.heap.size, 10, none⟩ = some (.int .i64 p.top) := HBr.out.cell 10
          have x11 : wr.cell? ⟨w.heap.size, 11, none⟩ = some (.int .i64 p.p1) := HBr.out.cell 11
          have x12 : wr.cell? ⟨w.heap.size, 12, none⟩ = some (.int .i64 p.p2) := HBr.out.cell 12
          have x13 : wr.cell? ⟨w.heap.size, 13, none⟩ = some (.int .i64 p.p3) := HBr.out.cell 13
          have x14 : wr.cell? ⟨w.heap.size, 14, none⟩ = some (.int .i64 p.p4) := HBr.out.cell 14
          have x15 : wr.cell? ⟨w.heap.size, 15, none⟩ = some (.slice p.vA p.vn p.vc) := HBr.out.cell 15
          clear hk
          as_aux_lemma =>
            go_wp2_with (go_at_call 92; refine (validPropose_any _ _ _ _ _ _ _ _ _ _ _ _ _ _ _ _ HI.out.rp HI.out.rv HLE.out.lp HLE.out.lv).mono ?_; rintro _ w2 ⟨rfl, hb2⟩; have H2 := Lib.hid hb2; clear hb2; go_simp)
            all_goals go_ret
            all_goals refine ⟨ret_bool ?_, by first | exact HWr.out | exact Below.then HWr.out H2.out⟩
            all_goals rw [HK.out]
        · have HK : Hid (validB p D = flushB p.f1 p.f2 p.f3 p.f4 p.base D.slots D.got) := Lib.hid (by rw [HVK.out]; simp [kindB, hk])
          rw [hk] at x0
          have x16 : wr.cell? ⟨w.heap.size, 16, none⟩ = some (.int .i64 p.f1) := HBr.out.cell 16
          have x17 : wr.cell? ⟨w.heap.size, 17, none⟩ = some (.int .i64 p.f2) := HBr.out.cell 17
          have x18 : wr.cell? ⟨w.heap.size, 18, none⟩ = some (.int .i64 p.f3) := HBr.out.cell 18
          have x19 : wr.cell? ⟨w.heap.size, 19, none⟩ = some (.int .i64 p.f4) := HBr.out.cell 19
          have x20 : wr.cell? ⟨w.heap.size, 20, none⟩ = some (.int .i64 p.base) := HBr.out.cell 20
          have x21 : wr.cell? ⟨w.heap.size, 21, none⟩ = some (.slice p.sA p.sn p.sc) := HBr.out.cell 21
          have x22 : wr.cell? ⟨w.heap.size, 22, none⟩ = some (.slice p.eA p.en p.ec) := HBr.out.cell 22
          clear hk
          as_aux_lemma =>
            go_wp2_with (go_at_call 93; refine (validFlush_any _ _ _ _ _ _ _ _ _ _ _ _ _ _ HI.out.rs HI.out.re HLE.out.ls HLE.out.le).mono ?_; rintro _ w2 ⟨rfl, hb2⟩; have H2 := Lib.hid hb2; clear hb2; go_simp)
            all_goals go_ret
            all_goals refine ⟨ret_bool ?_, by first | exact HWr.out | exact Below.then HWr.out H2.out⟩
            all_goals rw [HK.out]
        · have HK : Hid (validB p D = stableB p.w1 p.w2 p.w3 p.w4 p.done p.pfx) := Lib.hid (by rw [HVK.out]; simp [kindB, hk])
          rw [hk] at x0
          have x23 : wr.cell? ⟨w.heap.size, 23, none⟩ = some (.int .i64 p.w1) := HBr.out.cell 23
          have x24 : wr.cell? ⟨w.heap.size, 24, none⟩ = some (.int .i64 p.w2) := HBr.out.cell 24
          have x25 : wr.cell? ⟨w.heap.size, 25, none⟩ = some (.int .i64 p.w3) := HBr.out.cell 25
          have x26 : wr.cell? ⟨w.heap.size, 26, none⟩ = some (.int .i64 p.w4) := HBr.out.cell 26
          have x27 : wr.cell? ⟨w.heap.size, 27, none⟩ = some (.int .i64 p.done) := HBr.out.cell 27
          have x28 : wr.cell? ⟨w.heap.size, 28, none⟩ = some (.int .i64 p.pfx) := HBr.out.cell 28
          clear hk
          as_aux_lemma =>
            go_wp2_with (first | (go_at_call 94; refine (whole_any _ _ _ _ _).mono ?_; rintro _ w2 ⟨rfl, hb2⟩; have H2 := Lib.hid hb2; clear hb2; have z27 : w2.cell? ⟨w.heap.size, 27, none⟩ = some (.int .i64 p.done) := (HBr.out.over H2.out).cell 27; have z28 : w2.cell? ⟨w.heap.size, 28, none⟩ = some (.int .i64 p.pfx) := (HBr.out.over H2.out).cell 28; go_simp) | (go_at_call 90; refine (count_any _ _ _).mono ?_; rintro _ _ ⟨rfl, rfl⟩; go_simp))
            all_goals go_ret
            all_goals refine ⟨ret_bool ?_, by first | exact HWr.out | exact Below.then HWr.out H2.out⟩
            all_goals rw [HK.out]
            all_goals simp_all [stableB] <;> first | omega | (rw [Bool.eq_iff_iff]; simp; done) | (rw [Bool.eq_iff_iff]; simp; omega) | (rw [Bool.eq_iff_iff]; simp_all; omega)
        · have HK : Hid (validB p D = frameB p.t1 p.t2 p.t3 p.t4 p.seq p.bn) := Lib.hid (by rw [HVK.out]; simp [kindB, hk])
          rw [hk] at x0
          have x29 : wr.cell? ⟨w.heap.size, 29, none⟩ = some (.int .i64 p.t1) := HBr.out.cell 29
          have x30 : wr.cell? ⟨w.heap.size, 30, none⟩ = some (.int .i64 p.t2) := HBr.out.cell 30
          have x31 : wr.cell? ⟨w.heap.size, 31, none⟩ = some (.int .i64 p.t3) := HBr.out.cell 31
          have x32 : wr.cell? ⟨w.heap.size, 32, none⟩ = some (.int .i64 p.t4) := HBr.out.cell 32
          have x33 : wr.cell? ⟨w.heap.size, 33, none⟩ = some (.int .i64 p.seq) := HBr.out.cell 33
          have x34 : wr.cell? ⟨w.heap.size, 34, none⟩ = some (.slice p.bA p.bn p.bc) := HBr.out.cell 34
          clear hk
          as_aux_lemma =>
            go_wp2_with (first | (go_at_call 94; refine (whole_any _ _ _ _ _).mono ?_; rintro _ w2 ⟨rfl, hb2⟩; have H2 := Lib.hid hb2; clear hb2; have z33 : w2.cell? ⟨w.heap.size, 33, none⟩ = some (.int .i64 p.seq) := (HBr.out.over H2.out).cell 33; have z34 : w2.cell? ⟨w.heap.size, 34, none⟩ = some (.slice p.bA p.bn p.bc) := (HBr.out.over H2.out).cell 34; go_simp) | (go_at_call 90; refine (count_any _ _ _).mono ?_; rintro _ _ ⟨rfl, rfl⟩; go_simp))
            all_goals go_ret
            all_goals refine ⟨ret_bool ?_, by first | exact HWr.out | exact Below.then HWr.out H2.out⟩
            all_goals rw [HK.out]
            all_goals simp_all [frameB] <;> first | omega | (rw [Bool.eq_iff_iff]; simp; done) | (rw [Bool.eq_iff_iff]; simp; omega) | (rw [Bool.eq_iff_iff]; simp_all; omega)
        · have HK : Hid (validB p D = ackB p.a1 p.a2 p.a3 p.a4 p.upto) := Lib.hid (by rw [HVK.out]; simp [kindB, hk])
          rw [hk] at x0
          have x35 : wr.cell? ⟨w.heap.size, 35, none⟩ = some (.int .i64 p.a1) := HBr.out.cell 35
          have x36 : wr.cell? ⟨w.heap.size, 36, none⟩ = some (.int .i64 p.a2) := HBr.out.cell 36
          have x37 : wr.cell? ⟨w.heap.size, 37, none⟩ = some (.int .i64 p.a3) := HBr.out.cell 37
          have x38 : wr.cell? ⟨w.heap.size, 38, none⟩ = some (.int .i64 p.a4) := HBr.out.cell 38
          have x39 : wr.cell? ⟨w.heap.size, 39, none⟩ = some (.int .i64 p.upto) := HBr.out.cell 39
          clear hk
          as_aux_lemma =>
            go_wp2_with (first | (go_at_call 94; refine (whole_any _ _ _ _ _).mono ?_; rintro _ w2 ⟨rfl, hb2⟩; have H2 := Lib.hid hb2; clear hb2; have z39 : w2.cell? ⟨w.heap.size, 39, none⟩ = some (.int .i64 p.upto) := (HBr.out.over H2.out).cell 39; go_simp) | (go_at_call 90; refine (count_any _ _ _).mono ?_; rintro _ _ ⟨rfl, rfl⟩; go_simp))
            all_goals go_ret
            all_goals refine ⟨ret_bool ?_, by first | exact HWr.out | exact Below.then HWr.out H2.out⟩
            all_goals rw [HK.out]
            all_goals simp_all [ackB] <;> first | omega | (rw [Bool.eq_iff_iff]; simp; done) | (rw [Bool.eq_iff_iff]; simp; omega) | (rw [Bool.eq_iff_iff]; simp_all; omega)
        · have HK : Hid (validB p D = forwardB p.g1 p.g2 p.g3 p.g4 D.msgs) := Lib.hid (by rw [HVK.out]; simp [kindB, hk])
          rw [hk] at x0
          have x40 : wr.cell? ⟨w.heap.size, 40, none⟩ = some (.int .i64 p.g1) := HBr.out.cell 40
          have x41 : wr.cell? ⟨w.heap.size, 41, none⟩ = some (.int .i64 p.g2) := HBr.out.cell 41
          have x42 : wr.cell? ⟨w.heap.size, 42, none⟩ = some (.int .i64 p.g3) := HBr.out.cell 42
          have x43 : wr.cell? ⟨w.heap.size, 43, none⟩ = some (.int .i64 p.g4) := HBr.out.cell 43
          have x44 : wr.cell? ⟨w.heap.size, 44, none⟩ = some (.slice p.mA p.mn p.mc) := HBr.out.cell 44
          clear hk
          as_aux_lemma =>
            go_wp2_with (go_at_call 95; refine (validForward_any _ _ _ _ _ _ _ _ _ HI.out.rm HLE.out.lm).mono ?_; rintro _ w2 ⟨rfl, hb2⟩; have H2 := Lib.hid hb2; clear hb2; go_simp)
            all_goals go_ret
            all_goals refine ⟨ret_bool ?_, by first | exact HWr.out | exact Below.then HWr.out H2.out⟩
            all_goals rw [HK.out]
set_option maxRecDepth 100000 in
set_option maxHeartbeats 1600000 in
theorem Check_any (p : Pk) (D : PkD) (w : World) (hin : PkIn w w.heap.size p D) (hle : PkLe p) : Calls Tryd.prog 30 #[.agg p.cells] w fun r w' => r = .returned (.int .i64 (codeB (validB p D))) ∧ Below w.heap.size w w' := by
  go_enter Tryd.func30, Tryd.ntmps30
  go_upto_region 1 with fail
  obtain ⟨w0, hw0⟩ : ∃ x, x = w.alloc (.cells p.cells 45) := ⟨_, rfl⟩
  rw [← hw0]
  have HB : Hid (Blk w0 w.heap.size 45 p.cells) := Lib.hid (by rw [hw0]; exact Blk.new _ _ _)
  have HBW : Hid (Below w.heap.size w w0) := Lib.hid (by rw [hw0]; exact one_box _ _)
  clear hw0
  have HV := Lib.hid (valid_any p D w0 (hin.over HBW.out) hle)
  clear hin hle
  cases hv : validB p D with
  | true =>
    rw [hv] at HV
    have HVV := Lib.hid hv
    clear hv
    go_wp2_with (first | (refine wpList_load_on (by rfl) 45 _ (by rfl) w.heap.size (by rfl) 45 p.cells (0, 0) _ HB.out Tryd.underlying45 rfl (by kernel_rfl) ?_; simp only [Act.put, List.setIfInBounds_toArray, List.set_cons_zero, List.set_cons_succ]) | (go_at_call 38; refine HV.out.mono ?_; rintro _ w1 ⟨rfl, hb1⟩; have H1 := Lib.hid hb1; clear hb1; go_simp))
    go_ret
    exact ⟨ret_int (by rw [HVV.out]; rfl), Below.then HBW.out H1.out⟩
  | false =>
    rw [hv] at HV
    have HVV := Lib.hid hv
    clear hv
    go_wp2_with (first | (refine wpList_load_on (by rfl) 45 _ (by rfl) w.heap.size (by rfl) 45 p.cells (0, 0) _ HB.out Tryd.underlying45 rfl (by kernel_rfl) ?_; simp only [Act.put, List.setIfInBounds_toArray, List.set_cons_zero, List.set_cons_succ]) | (go_at_call 38; refine HV.out.mono ?_; rintro _ w1 ⟨rfl, hb1⟩; have H1 := Lib.hid hb1; clear hb1; go_simp))
    go_ret
    exact ⟨ret_int (by rw [HVV.out]; rfl), Below.then HBW.out H1.out⟩
end Go.Proofs.YtffcepaegcllmaaDoor
