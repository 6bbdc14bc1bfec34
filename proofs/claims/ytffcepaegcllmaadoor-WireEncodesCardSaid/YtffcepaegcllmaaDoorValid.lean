/-
  What a valid data, slot, item is: the program's and the reference's questions, each answered by one Bool.
-/
import Derived.Test.YtffcepaegcllmaaDoorLoose
namespace Go.Proofs.YtffcepaegcllmaaDoor
open Go.RowKit

def cntB (v lo : Int) : Bool := decide (lo ≤ v) && decide (v ≤ 4611686018427387904)
def withinB (v lo hi : Int) : Bool := decide (lo ≤ v) && decide (v ≤ hi)
def slotB (s q : Int) : Bool := decide (0 ≤ s) && decide (s < 16) && cntB q 1
def datB (s q t : Int) (n : Nat) : Bool := slotB s q && cntB t 0 && decide (n ≤ 256)
def zdatB (s q t : Int) (n : Nat) : Bool := decide (s = 0) && decide (q = 0) && decide (t = 0) && decide (n = 0)
def itemB (k s q t : Int) (n : Nat) (p st a c : Int) : Bool :=
  if k = 1 then datB s q t n && decide (p = 0) && decide (st = 0) && decide (a = 0) && decide (c = 0)
  else if k = 2 then zdatB s q t n && cntB p 1 && decide (0 ≤ st) && decide (st < p) && slotB a c else false
theorem within_cnt (v lo : Int) : withinB v lo 4611686018427387904 = cntB v lo := rfl
theorem within_node (s : Int) : withinB s 0 15 = (decide (0 ≤ s) && decide (s < 16)) := by
  unfold withinB
  congr 1
  rw [Bool.eq_iff_iff]; simp; omega
theorem box_below {w w1 : World} {o : Obj} (h : Below (w.alloc o).heap.size (w.alloc o) w1) : Below w.heap.size w w1 := ((Below.refl _ _).alloc (Nat.le_refl _) o).trans (h.mono (by simp))
theorem one_box (w : World) (o : Obj) : Below w.heap.size w (w.alloc o) := (Below.refl _ _).alloc (Nat.le_refl _) o

theorem Within_any (v lo hi : Int) (w : World) : Calls Tryd.prog 73 #[.int .i64 v, .int .i64 lo, .int .i64 hi] w fun e w' => e = .returned (.bool (withinB v lo hi)) ∧ w = w' := by
  go_enter Tryd.func73, Tryd.ntmps73
  go_wp2
  all_goals go_ret
  all_goals exact ⟨ret_bool (by simp [withinB, *] <;> first | omega | (intros; omega) | (rw [Bool.eq_iff_iff]; simp)), rfl⟩
theorem GoodSlot_any (s q : Int) (w : World) : Calls Tryd.prog 124 #[.agg #[.int .i64 s, .int .i64 q]] w fun e w' => e = .returned (.bool (slotB s q)) ∧ Below w.heap.size w w' := by
  go_enter Tryd.func124, Tryd.ntmps124
  go_wp2_with (go_at_call 73; refine (Within_any _ _ _ _).mono ?_; rintro e w' ⟨rfl, rfl⟩)
  all_goals go_ret
  all_goals exact ⟨ret_bool (by simp [slotB, ← within_cnt, ← within_node, *] <;> first | omega | (intros; omega) | (rw [Bool.eq_iff_iff]; simp)), one_box _ _⟩
set_option maxRecDepth 100000 in
theorem GoodData_any (s q t : Int) (A : Option Addr) (n cap : Nat) (w : World) : Calls Tryd.prog 130 #[.agg #[.int .i64 s, .int .i64 q, .int .i64 t, .slice A n cap]] w fun e w' => e = .returned (.bool (datB s q t n)) ∧ Below w.heap.size w w' := by
  go_enter Tryd.func130, Tryd.ntmps130
  go_wp2_with (go_at_call 73; refine (Within_any _ _ _ _).mono ?_; rintro e w' ⟨rfl, rfl⟩)
  all_goals go_ret
  all_goals exact ⟨ret_bool (by simp [datB, slotB, ← within_cnt, ← within_node, *] <;> first | omega | (intros; omega) | (rw [Bool.eq_iff_iff]; simp)), one_box _ _⟩
theorem count_any (v lo : Int) (w : World) : Calls Tryd.prog 90 #[.int .i64 v, .int .i64 lo] w fun e w' => e = .returned (.bool (cntB v lo)) ∧ w = w' := by
  go_enter Tryd.func90, Tryd.ntmps90
  go_wp2
  all_goals go_ret
  all_goals exact ⟨ret_bool (by simp [cntB, *] <;> first | omega | (intros; omega) | (rw [Bool.eq_iff_iff]; simp)), rfl⟩
theorem validSlot_any (s q : Int) (w : World) : Calls Tryd.prog 126 #[.agg #[.int .i64 s, .int .i64 q]] w fun e w' => e = .returned (.bool (slotB s q)) ∧ Below w.heap.size w w' := by
  go_enter Tryd.func126, Tryd.ntmps126
  go_wp2_with (go_at_call 90; refine (count_any _ _ _).mono ?_; rintro e w' ⟨rfl, rfl⟩)
  all_goals go_ret
  all_goals exact ⟨ret_bool (by simp [slotB, *] <;> first | omega | (intros; omega) | (rw [Bool.eq_iff_iff]; simp)), one_box _ _⟩
set_option maxRecDepth 100000 in
theorem validData_any (s q t : Int) (A : Option Addr) (n cap : Nat) (w : World) : Calls Tryd.prog 127 #[.agg #[.int .i64 s, .int .i64 q, .int .i64 t, .slice A n cap]] w fun e w' => e = .returned (.bool (datB s q t n)) ∧ Below w.heap.size w w' := by
  go_enter Tryd.func127, Tryd.ntmps127
  go_wp2_with (first
    | (go_at_call 90; refine (count_any _ _ _).mono ?_; rintro e w' ⟨rfl, rfl⟩)
    | (go_at_call 126; refine (validSlot_any _ _ _).mono ?_; rintro e w1 ⟨rfl, hb1⟩; obtain ⟨hc1, hf1⟩ := bcell hb1))
  all_goals go_ret
  all_goals exact ⟨ret_bool (by simp [datB, *] <;> first | omega | (intros; omega) | (rw [Bool.eq_iff_iff]; simp)), box_below hb1⟩
end Go.Proofs.YtffcepaegcllmaaDoor
