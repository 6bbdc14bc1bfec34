/-
  Heads, beats, stables, frames, acks.
-/
import Derived.Test.YtffcepaegcllmaaDoorPackV4
namespace Go.Proofs.YtffcepaegcllmaaDoor
open Go.RowKit

def headB (k s si d di : Int) : Bool :=
  decide (1 ≤ k) && decide (k ≤ 7) && decide (0 ≤ s) && decide (s < 16) && decide (0 ≤ d) && decide (d < 16) && decide (s ≠ d) && cntB si 1 && cntB di (if k = 1 then 0 else 1)
set_option maxRecDepth 100000 in
set_option maxHeartbeats 1600000 in
theorem validHead_any (k s si d di : Int) (w : World) : Calls Tryd.prog 88 #[.agg #[.int .i64 k, .int .i64 s, .int .i64 si, .int .i64 d, .int .i64 di]] w fun r w' => r = .returned (.bool (headB k s si d di)) ∧ Below w.heap.size w w' := by
  by_cases hg : 1 ≤ k ∧ k ≤ 7 ∧ 0 ≤ s ∧ s < 16 ∧ 0 ≤ d ∧ d < 16 ∧ s ≠ d
  · obtain ⟨g1, g2, g3, g4, g5, g6, g7⟩ := hg
    have g7' : (s == d) = false := by simpa using g7
    by_cases hk : k = 1
    · subst hk
      have HH := Lib.hid (show headB 1 s si d di = (cntB si 1 && cntB di 0) by simp [headB, g3, g4, g5, g6, g7])
      clear g7
      go_enter Tryd.func88, Tryd.ntmps88
      go_wp2_with (go_at_call 90; refine (count_any _ _ _).mono ?_; rintro _ _ ⟨rfl, rfl⟩)
      all_goals go_ret
      all_goals
        refine ⟨ret_bool ?_, one_box _ _⟩
        rw [HH.out]
        simp_all
    · have hk' : (k == 1) = false := by simpa using hk
      have HH := Lib.hid (show headB k s si d di = (cntB si 1 && cntB di 1) by simp [headB, g1, g2, g3, g4, g5, g6, g7, hk])
      clear g7 hk
      go_enter Tryd.func88, Tryd.ntmps88
      go_wp2_with (go_at_call 90; refine (count_any _ _ _).mono ?_; rintro _ _ ⟨rfl, rfl⟩)
      all_goals go_ret
      all_goals
        refine ⟨ret_bool ?_, one_box _ _⟩
        rw [HH.out]
        simp_all
  · have HH := Lib.hid (show headB k s si d di = false by
      simp only [headB, Bool.and_eq_false_iff, decide_eq_false_iff_not]
      omega)
    have HG := Lib.hid hg
    clear hg
    go_enter Tryd.func88, Tryd.ntmps88
    go_wp2_with (go_at_call 90; refine (count_any _ _ _).mono ?_; rintro _ _ ⟨rfl, rfl⟩)
    all_goals first
      | (go_ret; exact ⟨ret_bool HH.out.symm, one_box _ _⟩)
      | (exfalso
         have := HG.out
         simp_all <;> omega)
def stableB (e l i c dn pf : Int) : Bool := wholeB e l i c && cntB dn 0 && decide (0 ≤ pf) && decide (pf ≤ dn)
def frameB (e l i c sq : Int) (n : Nat) : Bool := wholeB e l i c && cntB sq 1 && decide (1 ≤ n) && decide (n ≤ 300)
def ackB (e l i c up : Int) : Bool := wholeB e l i c && cntB up 0
def beatB (tk : Int) (l : List Int) : Bool := cntB tk 0 && countsB l
set_option maxRecDepth 100000 in
set_option maxHeartbeats 1600000 in
theorem goodStable_any (e l i c dn pf : Int) (w : World) : Calls Tryd.prog 78 #[.agg #[.int .i64 e, .int .i64 l, .int .i64 i, .int .i64 c, .int .i64 dn, .int .i64 pf]] w fun r w' => r = .returned (.bool (stableB e l i c dn pf)) ∧ Below w.heap.size w w' := by
  have hb0 := one_box w (.cells #[.int .i64 e, .int .i64 l, .int .i64 i, .int .i64 c, .int .i64 dn, .int .i64 pf] 35)
  have hO := Blk.new w 35 #[.int .i64 e, .int .i64 l, .int .i64 i, .int .i64 c, .int .i64 dn, .int .i64 pf]
  obtain ⟨w0, hw0⟩ : ∃ w0, w0 = w.alloc (.cells #[.int .i64 e, .int .i64 l, .int .i64 i, .int .i64 c, .int .i64 dn, .int .i64 pf] 35) := ⟨_, rfl⟩
  rw [← hw0] at hb0 hO
  have HW0 := Lib.hid hw0
  clear hw0
  go_enter Tryd.func78, Tryd.ntmps78
  go_wp2_with fail
  rw [← HW0.out]
  refine (Whole_any _ _ _ _ _).mono ?_
  rintro _ w2 ⟨rfl, hb2⟩
  have hO2 := hO.over hb2
  have hbn := Below.then hb0 hb2
  have q0 : w2.cell? ⟨w.heap.size, 0, none⟩ = some (.int .i64 e) := by rw [hO2.cell]; rfl
  have q1 : w2.cell? ⟨w.heap.size, 1, none⟩ = some (.int .i64 l) := by rw [hO2.cell]; rfl
  have q2 : w2.cell? ⟨w.heap.size, 2, none⟩ = some (.int .i64 i) := by rw [hO2.cell]; rfl
  have q3 : w2.cell? ⟨w.heap.size, 3, none⟩ = some (.int .i64 c) := by rw [hO2.cell]; rfl
  have q4 : w2.cell? ⟨w.heap.size, 4, none⟩ = some (.int .i64 dn) := by rw [hO2.cell]; rfl
  have q5 : w2.cell? ⟨w.heap.size, 5, none⟩ = some (.int .i64 pf) := by rw [hO2.cell]; rfl
  go_wp2_with (go_at_call 73; refine (Within_any _ _ _ _).mono ?_; rintro _ _ ⟨rfl, rfl⟩)
  all_goals go_ret
  all_goals refine ⟨ret_bool ?_, hbn⟩
  all_goals
    simp_all [stableB, withinB, cntB] <;> first | omega | (intros; omega) | (rw [Bool.eq_iff_iff]; simp; done) | (rw [Bool.eq_iff_iff]; simp; omega)
set_option maxRecDepth 100000 in
set_option maxHeartbeats 1600000 in
theorem goodFrame_any (e l i c sq : Int) (Ab : Option Addr) (nb kb : Nat) (w : World) : Calls Tryd.prog 79 #[.agg #[.int .i64 e, .int .i64 l, .int .i64 i, .int .i64 c, .int .i64 sq, .slice Ab nb kb]] w fun r w' => r = .returned (.bool (frameB e l i c sq nb)) ∧ Below w.heap.size w w' := by
  have hb0 := one_box w (.cells #[.int .i64 e, .int .i64 l, .int .i64 i, .int .i64 c, .int .i64 sq, .slice Ab nb kb] 38)
  have hO := Blk.new w 38 #[.int .i64 e, .int .i64 l, .int .i64 i, .int .i64 c, .int .i64 sq, .slice Ab nb kb]
  obtain ⟨w0, hw0⟩ : ∃ w0, w0 = w.alloc (.cells #[.int .i64 e, .int .i64 l, .int .i64 i, .int .i64 c, .int .i64 sq, .slice Ab nb kb] 38) := ⟨_, rfl⟩
  rw [← hw0] at hb0 hO
  have HW0 := Lib.hid hw0
  clear hw0
  go_enter Tryd.func79, Tryd.ntmps79
  go_wp2_with fail
  rw [← HW0.out]
  refine (Whole_any _ _ _ _ _).mono ?_
  rintro _ w2 ⟨rfl, hb2⟩
  have hO2 := hO.over hb2
  have hbn := Below.then hb0 hb2
  have q0 : w2.cell? ⟨w.heap.size, 0, none⟩ = some (.int .i64 e) := by rw [hO2.cell]; rfl
  have q1 : w2.cell? ⟨w.heap.size, 1, none⟩ = some (.int .i64 l) := by rw [hO2.cell]; rfl
  have q2 : w2.cell? ⟨w.heap.size, 2, none⟩ = some (.int .i64 i) := by rw [hO2.cell]; rfl
  have q3 : w2.cell? ⟨w.heap.size, 3, none⟩ = some (.int .i64 c) := by rw [hO2.cell]; rfl
  have q4 : w2.cell? ⟨w.heap.size, 4, none⟩ = some (.int .i64 sq) := by rw [hO2.cell]; rfl
  have q5 : w2.cell? ⟨w.heap.size, 5, none⟩ = some (.slice Ab nb kb) := by rw [hO2.cell]; rfl
  go_wp2_with (go_at_call 73; refine (Within_any _ _ _ _).mono ?_; rintro _ _ ⟨rfl, rfl⟩)
  all_goals go_ret
  all_goals refine ⟨ret_bool ?_, hbn⟩
  all_goals
    simp_all [frameB, withinB, cntB] <;> first | omega | (intros; omega) | (rw [Bool.eq_iff_iff]; simp; done) | (rw [Bool.eq_iff_iff]; simp; omega)
set_option maxRecDepth 100000 in
set_option maxHeartbeats 1600000 in
theorem goodAck_any (e l i c up : Int) (w : World) : Calls Tryd.prog 80 #[.agg #[.int .i64 e, .int .i64 l, .int .i64 i, .int .i64 c, .int .i64 up]] w fun r w' => r = .returned (.bool (ackB e l i c up)) ∧ Below w.heap.size w w' := by
  have hb0 := one_box w (.cells #[.int .i64 e, .int .i64 l, .int .i64 i, .int .i64 c, .int .i64 up] 40)
  have hO := Blk.new w 40 #[.int .i64 e, .int .i64 l, .int .i64 i, .int .i64 c, .int .i64 up]
  obtain ⟨w0, hw0⟩ : ∃ w0, w0 = w.alloc (.cells #[.int .i64 e, .int .i64 l, .int .i64 i, .int .i64 c, .int .i64 up] 40) := ⟨_, rfl⟩
  rw [← hw0] at hb0 hO
  have HW0 := Lib.hid hw0
  clear hw0
  go_enter Tryd.func80, Tryd.ntmps80
  go_wp2_with fail
  rw [← HW0.out]
  refine (Whole_any _ _ _ _ _).mono ?_
  rintro _ w2 ⟨rfl, hb2⟩
  have hO2 := hO.over hb2
  have hbn := Below.then hb0 hb2
  have q0 : w2.cell? ⟨w.heap.size, 0, none⟩ = some (.int .i64 e) := by rw [hO2.cell]; rfl
  have q1 : w2.cell? ⟨w.heap.size, 1, none⟩ = some (.int .i64 l) := by rw [hO2.cell]; rfl
  have q2 : w2.cell? ⟨w.heap.size, 2, none⟩ = some (.int .i64 i) := by rw [hO2.cell]; rfl
  have q3 : w2.cell? ⟨w.heap.size, 3, none⟩ = some (.int .i64 c) := by rw [hO2.cell]; rfl
  have q4 : w2.cell? ⟨w.heap.size, 4, none⟩ = some (.int .i64 up) := by rw [hO2.cell]; rfl
  go_wp2_with (go_at_call 73; refine (Within_any _ _ _ _).mono ?_; rintro _ _ ⟨rfl, rfl⟩)
  all_goals go_ret
  all_goals refine ⟨ret_bool ?_, hbn⟩
  all_goals
    simp_all [ackB, withinB, cntB] <;> first | omega | (intros; omega) | (rw [Bool.eq_iff_iff]; simp; done) | (rw [Bool.eq_iff_iff]; simp; omega)
set_option maxRecDepth 100000 in
set_option maxHeartbeats 1600000 in
theorem goodBeat_any (tk : Int) (Ah : Option Addr) (nh kh : Nat) (hv : List Int) (w : World) (hh : RdI w w.heap.size Ah nh hv) (hnh : nh ≤ 140737488351232) : Calls Tryd.prog 75 #[.agg #[.int .i64 tk, .slice Ah nh kh]] w fun r w' => r = .returned (.bool (beatB tk hv)) ∧ Below w.heap.size w w' := by
  have HL := Lib.hid hh.lenI
  have hb0 := one_box w (.cells #[.int .i64 tk, .slice Ah nh kh] 26)
  have hh0 := hh.below hb0
  have hwi : withinB (nh : Int) 1 16 = (decide (1 ≤ hv.length) && decide (hv.length ≤ 16)) := by
    rw [HL.out]; unfold withinB; rw [Bool.eq_iff_iff]; simp <;> omega
  have HWI := Lib.hid hwi
  clear hwi
  go_enter Tryd.func75, Tryd.ntmps75
  go_wp2_with (first
    | (go_at_call 73; refine (Within_any _ _ _ _).mono ?_; rintro _ _ ⟨he, rfl⟩; (first | rw [within_cnt] at he | rw [HWI.out] at he); subst he)
    | (go_at_call 122; refine (rcounts_any Ah nh kh _ hv _ hh0 (by omega)).mono ?_; rintro _ _ ⟨rfl, rfl⟩))
  all_goals go_ret
  all_goals refine ⟨ret_bool ?_, hb0⟩
  all_goals
    simp_all [beatB, countsB] <;> first | omega | (intros; omega) | (rw [Bool.eq_iff_iff]; simp; done) | (rw [Bool.eq_iff_iff]; simp; omega)
end Go.Proofs.YtffcepaegcllmaaDoor
