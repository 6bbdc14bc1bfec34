/-
  A valid item: the program's question and the reference's.
-/
import Derived.Test.YtffcepaegcllmaaValid
namespace Go.Proofs.Ytffcepaegcllmaa
open Go.RowKit

abbrev itemV (k s q t : Int) (A : Option Addr) (n cap : Nat) (p st a c : Int) : Value := .agg #[.int .i64 k, .int .i64 s, .int .i64 q, .int .i64 t, .slice A n cap, .int .i64 p, .int .i64 st, .int .i64 a, .int .i64 c]

set_option maxRecDepth 100000 in
set_option maxHeartbeats 1600000 in
theorem validItem_any (k s q t : Int) (A : Option Addr) (n cap : Nat) (p st a c : Int) (w : World) :
    Calls Try.prog 24 #[.agg #[.int .i64 k, .int .i64 s, .int .i64 q, .int .i64 t, .slice A n cap, .int .i64 p, .int .i64 st, .int .i64 a, .int .i64 c]] w fun e w' => e = .returned (.bool (itemB k s q t n p st a c)) ∧ Below w.heap.size w w' := by
  by_cases h1 : k = 1
  · subst h1
    go_enter Try.func24, Try.ntmps24
    go_wp2_with (go_at_call 47; refine (validData_any _ _ _ _ _ _ _).mono ?_; rintro e w1 ⟨rfl, hb1⟩; obtain ⟨hc1, hf1⟩ := bcell hb1)
    all_goals go_ret
    all_goals exact ⟨ret_bool (by simp [itemB, *] <;> first | omega | (intros; omega) | (rw [Bool.eq_iff_iff]; simp)), box_below hb1⟩
  · by_cases h2 : k = 2
    · subst h2
      clear h1
      go_enter Try.func24, Try.ntmps24
      go_wp2_with (first
        | (go_at_call 48; refine (zeroData_any _ _ _ _ _ _ _).mono ?_; rintro e w1 ⟨rfl, hb1⟩; obtain ⟨hc1, hf1⟩ := bcell hb1)
        | (go_at_call 49; refine (count_any _ _ _).mono ?_; rintro e w' ⟨rfl, rfl⟩)
        | (go_at_call 50; refine (validSlot_any _ _ _).mono ?_; rintro e w2 ⟨rfl, hb2⟩))
      all_goals go_ret
      all_goals refine ⟨ret_bool (by simp [itemB, *] <;> first | omega | (intros; omega) | (rw [Bool.eq_iff_iff]; simp)), ?_⟩
      all_goals first | exact box_below hb1 | exact (box_below hb1).trans (hb2.mono (box_below hb1).size)
    · have e1 : (k == 1) = false := by simpa using h1
      have e2 : (k == 2) = false := by simpa using h2
      go_enter Try.func24, Try.ntmps24
      go_wp2
      go_ret
      exact ⟨ret_bool (by simp [itemB, h1, h2]), one_box _ _⟩

set_option maxRecDepth 100000 in
set_option maxHeartbeats 1600000 in
theorem GoodItem_any (k s q t : Int) (A : Option Addr) (n cap : Nat) (p st a c : Int) (w : World) (hp0 : -9223372036854775808 ≤ p) (hp1 : p ≤ 9223372036854775807) :
    Calls Try.prog 20 #[.agg #[.int .i64 k, .int .i64 s, .int .i64 q, .int .i64 t, .slice A n cap, .int .i64 p, .int .i64 st, .int .i64 a, .int .i64 c]] w fun e w' => e = .returned (.bool (itemB k s q t n p st a c)) ∧ Below w.heap.size w w' := by
  by_cases h1 : k = 1
  · subst h1
    go_enter Try.func20, Try.ntmps20
    go_wp2_with (go_at_call 43; refine (GoodData_any _ _ _ _ _ _ _).mono ?_; rintro e w1 ⟨rfl, hb1⟩; obtain ⟨hc1, hf1⟩ := bcell hb1)
    all_goals go_ret
    all_goals exact ⟨ret_bool (by simp [itemB, *] <;> first | omega | (intros; omega) | (rw [Bool.eq_iff_iff]; simp)), box_below hb1⟩
  · have e1 : (k == 1) = false := by simpa using h1
    by_cases h2 : k = 2
    · subst h2
      clear h1
      have hst : withinB st 0 (p - 1) = (decide (0 ≤ st) && decide (st < p)) := by
        unfold withinB
        congr 1
        rw [Bool.eq_iff_iff]; simp; omega
      have HST := Lib.hid hst
      clear hst
      by_cases hp : 1 ≤ p ∧ p ≤ 4611686018427387904
      · obtain ⟨hpa, hpb⟩ := hp
        have hw : withinB p 1 4611686018427387904 = true := by simp [withinB, hpa, hpb]
        have HW := Lib.hid hw
        go_enter Try.func20, Try.ntmps20
        go_wp2_with (first
          | (go_at_call 44; refine (Within_any _ _ _ _).mono ?_; rintro e w' ⟨rfl, rfl⟩)
          | (go_at_call 45; refine (GoodSlot_any _ _ _).mono ?_; rintro e w2 ⟨rfl, hb2⟩))
        all_goals go_ret
        all_goals rw [within_cnt] at hw
        all_goals have hst := HST.out
        all_goals refine ⟨ret_bool ?_, ?_⟩
        all_goals try first | exact box_below (box_below hb2) | exact (one_box _ _).trans ((one_box _ _).mono (by simp))
        all_goals simp_all [itemB, zdatB] <;> (intros; omega)
      · have hw : withinB p 1 4611686018427387904 = false := by
          simp only [withinB, Bool.and_eq_false_iff, decide_eq_false_iff_not]; omega
        go_enter Try.func20, Try.ntmps20
        go_wp2_with (first
          | (go_at_call 44; refine (Within_any _ _ _ _).mono ?_; rintro e w' ⟨rfl, rfl⟩)
          | (go_at_call 45; refine (GoodSlot_any _ _ _).mono ?_; rintro e w2 ⟨rfl, hb2⟩))
        all_goals go_ret
        all_goals rw [within_cnt] at hw
        all_goals refine ⟨ret_bool ?_, ?_⟩
        all_goals try first | exact box_below (box_below hb2) | exact (one_box _ _).trans ((one_box _ _).mono (by simp))
        all_goals simp_all [itemB, zdatB] <;> (intros; omega)
    · have e2 : (k == 2) = false := by simpa using h2
      go_enter Try.func20, Try.ntmps20
      go_wp2
      all_goals go_ret
      all_goals exact ⟨ret_bool (by simp [itemB, h1, h2]), (one_box _ _).trans ((one_box _ _).mono (by simp))⟩
end Go.Proofs.Ytffcepaegcllmaa
