/-
  PutInt of the program and of the reference.
-/
import Derived.Test.YtjafmcahlmopiaaPut
namespace Go.Proofs.Ytjafmcahlmopiaa
open Go.RowKit

set_option maxRecDepth 100000 in
set_option maxHeartbeats 800000 in
theorem PutInt_yes (A : Option Addr) (n cap : Nat) (bs : List UInt8) (x : Nat) (w : World) (hr : RdB w w.heap.size A n bs) (hn : n + 9 ≤ 140737488355328) (hx : x ≤ 4611686018427387904) :
    Calls Try.prog 13 #[.slice A n cap, .int .i64 x] w fun e w' => ∃ v, e = .returned (.tuple #[v, .int .i64 0]) ∧ w'.ownsRow w.heap.size 5 1 v (n + (putB x).length) (bvs (bs ++ putB x)) ∧ Below w.heap.size w w' := by
  obtain ⟨i0, hi0, hz0, hz1, hz2⟩ := info_parts info_u8
  have hmk := fun W => run_make_rowN (P := Try.prog) 25 5 i0 (.int .u8 0) u_bytes hi0 hz0 .i64 .i64 n (n + 9) (by omega) (by rw [hz2]; omega) (by omega) W
  have e1 : ((n + 9 : Nat) : Int) = (n : Int) + 9 := by omega
  rw [hz1] at hmk
  simp only [e1] at hmk
  have hl := hr.lenB
  have HL := Lib.hid hl
  clear hl e1
  go_enter Try.func13, Try.ntmps13
  go_wp2_with (
    refine copyR (o := ⟨some 21, _, _, _, _, _⟩) rfl _ _ _ _ (by rfl) 5 u_bytes i0 hi0 hz1 w.heap.size 0 n (n + 9) A n cap (by rfl) (by rfl) _ 5 (Blk.new _ _ _) w.heap.size (bvs bs) (hr.below ((Below.refl _ _).alloc (Nat.le_refl _) _)) (Nat.le_refl _) (by simp [size_madeCells]) (bvs_one bs) w.heap.size (Nat.le_refl _) ?_
    intro w1 hB1 hb1)
  have hb : Below w.heap.size w w1 := ((Below.refl _ _).alloc (Nat.le_refl _) _).trans hb1
  have hown : w1.ownsRow w.heap.size 5 1 (.slice (some ⟨w.heap.size, 0, none⟩) n (n + 9)) n (bvs bs) := by
    refine ⟨by rw [bvs_length, HL.out]; omega, .inr ⟨_, _, _, rfl, Nat.le_refl _, hB1, by omega, by simp only [maxLen]; omega, ?_, ?_⟩⟩
    · rw [List.size_toArray, length_splice]
      · simp [size_madeCells]
      · simp [size_madeCells, bvs_length, HL.out]
    · simp only [splice, List.take_zero, List.nil_append, Nat.mul_one]
      rw [← HL.out, ← bvs_length, List.take_left]
  go_wp2_with fail
  refine (put_any w.heap.size _ n (bvs bs) x _ hown hb.size hn (by omega)).mono ?_
  rintro _ w2 ⟨v, rfl, hown2, hb2⟩
  go_wp2
  go_ret2
  exact ⟨v, rfl, by rw [bvs_append]; exact hown2, hb.trans hb2⟩

set_option maxHeartbeats 400000 in
theorem PutInt_no (A : Option Addr) (n cap : Nat) (x : Int) (w : World) (hx : x < 0 ∨ 4611686018427387904 < x) :
    Calls Try.prog 13 #[.slice A n cap, .int .i64 x] w fun e w' => e = .returned (.tuple #[.slice none 0 0, .int .i64 1]) ∧ w = w' := by
  by_cases h : x < 0
  · clear hx
    go_enter Try.func13, Try.ntmps13
    go_wp2
    go_ret2
    exact ⟨rfl, rfl⟩
  · have h2 : 4611686018427387904 < x := by omega
    clear hx
    go_enter Try.func13, Try.ntmps13
    go_wp2
    go_ret2
    exact ⟨rfl, rfl⟩

set_option maxRecDepth 100000 in
set_option maxHeartbeats 800000 in
theorem RPutInt_yes (A : Option Addr) (n cap : Nat) (bs : List UInt8) (x : Nat) (w : World) (hr : RdB w w.heap.size A n bs) (hn : n + 9 ≤ 140737488355328) (hx : x ≤ 4611686018427387904) :
    Calls Try.prog 14 #[.slice A n cap, .int .i64 x] w fun e w' => ∃ v, e = .returned (.tuple #[v, .int .i64 0]) ∧ w'.ownsRow w.heap.size 5 1 v (n + (putB x).length) (bvs (bs ++ putB x)) ∧ Below w.heap.size w w' := by
  go_enter Try.func14, Try.ntmps14
  go_wp2_with fail
  refine (Within_yes _ _ _ _ (by omega) (by omega)).mono ?_
  rintro _ _ ⟨rfl, rfl⟩
  go_wp2_with fail
  refine (Copied_any _ _ _ _ _ hr (by omega)).mono ?_
  rintro _ w1 ⟨v1, rfl, hown1, hb1⟩
  go_wp2_with fail
  refine (Rput_any w.heap.size _ n (bvs bs) x _ hown1 hb1.size hn (by omega)).mono ?_
  rintro _ w2 ⟨v, rfl, hown2, hb2⟩
  go_wp2
  go_ret2
  exact ⟨v, rfl, by rw [bvs_append]; exact hown2, hb1.trans hb2⟩

set_option maxHeartbeats 400000 in
theorem RPutInt_no (A : Option Addr) (n cap : Nat) (x : Int) (w : World) (hx : x < 0 ∨ 4611686018427387904 < x) :
    Calls Try.prog 14 #[.slice A n cap, .int .i64 x] w fun e w' => e = .returned (.tuple #[.slice none 0 0, .int .i64 1]) ∧ w = w' := by
  go_enter Try.func14, Try.ntmps14
  go_wp2_with fail
  refine (Within_no _ _ _ _ hx).mono ?_
  rintro _ _ ⟨rfl, rfl⟩
  go_wp2
  go_ret2
  exact ⟨rfl, rfl⟩
end Go.Proofs.Ytjafmcahlmopiaa
