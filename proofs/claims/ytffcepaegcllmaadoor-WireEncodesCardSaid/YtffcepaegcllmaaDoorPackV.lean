/-
  What a valid packet is, its parts: the program's questions and the reference's, each answered by one Bool.
-/
import Derived.Test.YtffcepaegcllmaaDoorValid
namespace Go.Proofs.YtffcepaegcllmaaDoor
open Go.RowKit

def wholeB (e l i c : Int) : Bool := cntB e 1 && (decide (0 ≤ l) && decide (l < 16)) && cntB i 1 && cntB c 1
def noneB (e l i c : Int) : Bool := decide (e = 0) && decide (l = 0) && decide (i = 0) && decide (c = 0)
def allB (l : List Int) : Bool := l.all fun x => cntB x 0
def countsB (l : List Int) : Bool := allB l && decide (1 ≤ l.length) && decide (l.length ≤ 16)
theorem allB_snoc {l : List Int} {k : Nat} {x : Int} (h : l[k]? = some x) : allB (l.take (k + 1)) = (allB (l.take k) && cntB x 0) := by
  unfold allB
  rw [List.take_add_one, h, List.all_append]
  simp
theorem allB_no {l : List Int} {k : Nat} {x : Int} (h : l[k]? = some x) (hx : cntB x 0 = false) : allB l = false := by
  unfold allB
  rw [List.all_eq_false]
  exact ⟨x, List.mem_of_getElem? h, by simp [hx]⟩
set_option maxRecDepth 100000 in
theorem Whole_any (e l i c : Int) (w : World) : Calls Tryd.prog 123 #[.agg #[.int .i64 e, .int .i64 l, .int .i64 i, .int .i64 c]] w fun r w' => r = .returned (.bool (wholeB e l i c)) ∧ Below w.heap.size w w' := by
  go_enter Tryd.func123, Tryd.ntmps123
  go_wp2_with (go_at_call 73; refine (Within_any _ _ _ _).mono ?_; rintro e w' ⟨rfl, rfl⟩)
  all_goals go_ret
  all_goals exact ⟨ret_bool (by simp [wholeB, ← within_cnt, ← within_node, *] <;> first | omega | (intros; omega) | (rw [Bool.eq_iff_iff]; simp)), one_box _ _⟩
set_option maxRecDepth 100000 in
theorem None_any (e l i c : Int) (w : World) : Calls Tryd.prog 121 #[.agg #[.int .i64 e, .int .i64 l, .int .i64 i, .int .i64 c]] w fun r w' => r = .returned (.bool (noneB e l i c)) ∧ Below w.heap.size w w' := by
  go_enter Tryd.func121, Tryd.ntmps121
  go_wp2
  all_goals go_ret
  all_goals exact ⟨ret_bool (by simp [noneB, *] <;> first | omega | (intros; omega) | (rw [Bool.eq_iff_iff]; simp)), one_box _ _⟩
set_option maxRecDepth 100000 in
theorem whole_any (e l i c : Int) (w : World) : Calls Tryd.prog 94 #[.agg #[.int .i64 e, .int .i64 l, .int .i64 i, .int .i64 c]] w fun r w' => r = .returned (.bool (wholeB e l i c)) ∧ Below w.heap.size w w' := by
  go_enter Tryd.func94, Tryd.ntmps94
  go_wp2_with (go_at_call 90; refine (count_any _ _ _).mono ?_; rintro e w' ⟨rfl, rfl⟩)
  all_goals go_ret
  all_goals exact ⟨ret_bool (by simp [wholeB, *] <;> first | omega | (intros; omega) | (rw [Bool.eq_iff_iff]; simp)), one_box _ _⟩
set_option maxRecDepth 100000 in
set_option maxHeartbeats 800000 in
theorem rcounts_any (A : Option Addr) (n cap B : Nat) (l : List Int) (w : World) (hr : RdI w B A n l) (hn : n ≤ 9223372036854775807) : Calls Tryd.prog 122 #[.slice A n cap] w fun r w' => r = .returned (.bool (allB l)) ∧ w = w' := by
  have HL := Lib.hid hr.lenI
  go_enter Tryd.func122, Tryd.ntmps122
  go_wp2
  go_loop [3] (fun i => ∃ k : Nat, k ≤ n ∧ i = .int .i64 (k : Int) ∧ Hid (allB (l.take k) = true)) (fun i => n - (intOf i).toNat)
  case atStart => exact ⟨0, by omega, rfl, rfl⟩
  case round =>
    obtain ⟨k, hk, rfl, HA⟩ := hrel
    by_cases hlt : k < n
    · obtain ⟨b, off, x, rfl, hb, hck, hcell⟩ := hr.int hlt
      have hltI : (k : Int) < (n : Int) := by omega
      have HK := Lib.hid hck
      clear hck
      by_cases hx : cntB x 0 = true
      · have HX := Lib.hid hx
        clear hx
        go_wp2_with fail
        refine (Within_any _ _ _ _).mono ?_
        rintro _ _ ⟨he, rfl⟩
        rw [within_cnt, HX.out] at he
        subst he
        go_wp2
        go_round
        case rel => exact ⟨k + 1, by omega, by go_num, by show _ = _; rw [allB_snoc HK.out, HA.out, HX.out]; rfl⟩
        case measure => simp [intOf] <;> omega
      · have HX := Lib.hid (show cntB x 0 = false by simpa using hx)
        clear hx
        go_wp2_with fail
        refine (Within_any _ _ _ _).mono ?_
        rintro _ _ ⟨he, rfl⟩
        rw [within_cnt, HX.out] at he
        subst he
        go_wp2
        go_ret
        exact ⟨ret_bool (allB_no HK.out HX.out).symm, rfl⟩
    · obtain rfl : k = n := by omega
      go_wp2
      go_ret
      refine ⟨ret_bool ?_, rfl⟩
      have := HA.out
      rw [List.take_of_length_le (by rw [HL.out]; exact Nat.le_refl _)] at this
      exact this.symm
set_option maxRecDepth 100000 in
set_option maxHeartbeats 800000 in
theorem vcounts_any (A : Option Addr) (n cap B : Nat) (l : List Int) (w : World) (hr : RdI w B A n l) (hn : n ≤ 9223372036854775807) : Calls Tryd.prog 91 #[.slice A n cap] w fun r w' => r = .returned (.bool (countsB l)) ∧ w = w' := by
  have HL := Lib.hid hr.lenI
  go_enter Tryd.func91, Tryd.ntmps91
  go_wp2_with fail
  go_loop [4, 7] (fun _ i => ∃ k : Nat, k ≤ n ∧ i = .int .i64 (k : Int) ∧ Hid (allB (l.take k) = true)) (fun _ i => n - (intOf i).toNat)
  case atStart => exact ⟨0, by omega, rfl, rfl⟩
  case round =>
    obtain ⟨k, hk, rfl, HA⟩ := hrel
    by_cases hlt : k < n
    · obtain ⟨b, off, x, rfl, hb, hck, hcell⟩ := hr.int hlt
      have hltI : (k : Int) < (n : Int) := by omega
      have HK := Lib.hid hck
      clear hck
      by_cases hx : cntB x 0 = true
      · have HX := Lib.hid hx
        clear hx
        go_wp2_with fail
        refine (count_any _ _ _).mono ?_
        rintro _ _ ⟨he, rfl⟩
        rw [HX.out] at he
        subst he
        go_wp2
        go_round
        case rel => exact ⟨k + 1, by omega, by go_num, by show _ = _; rw [allB_snoc HK.out, HA.out, HX.out]; rfl⟩
        case measure => simp [intOf] <;> omega
      · have HX := Lib.hid (show cntB x 0 = false by simpa using hx)
        clear hx
        go_wp2_with fail
        refine (count_any _ _ _).mono ?_
        rintro _ _ ⟨he, rfl⟩
        rw [HX.out] at he
        subst he
        go_wp2
        go_ret
        refine ⟨ret_bool ?_, rfl⟩
        unfold countsB
        rw [allB_no HK.out HX.out]
        rfl
    · obtain rfl : k = n := by omega
      have hA : allB l = true := by
        have := HA.out
        rw [List.take_of_length_le (by rw [HL.out]; exact Nat.le_refl _)] at this
        exact this
      have HAL := Lib.hid hA
      clear hA
      go_wp2
      all_goals go_ret
      all_goals
        refine ⟨ret_bool ?_, rfl⟩
        unfold countsB
        rw [HAL.out, HL.out, Bool.eq_iff_iff]
        simp <;> omega
end Go.Proofs.YtffcepaegcllmaaDoor
