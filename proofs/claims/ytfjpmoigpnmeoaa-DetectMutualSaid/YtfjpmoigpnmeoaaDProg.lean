/-
  The program's detector: the calls that only read.
-/
import Derived.Test.YtfjpmoigpnmeoaaDState
import Derived.Deep.QuietTactic
import Derived.BigQuiet
import Derived.WalkSpells
import Derived.Outline
import Derived.RegionTactic
import Derived.BigRegion
import Derived.Deep.CutRange
namespace Go.Proofs.Ytfjpmoigpnmeoaa
open Go.RowKit
variable {w : World} {F : Nat → Prop} {c : Cfg} {D O : Nat} {d : DSt} {Q C : Nat → Nat}

set_option maxHeartbeats 800000 in
theorem of_yes (h : PD w F c D d O Q C) (_hn : c.n ≤ 16) {q : Nat} (hq : q < c.n) (hs : q ≠ c.self) :
    Calls Try.prog 43 #[.pointer (some ⟨D, 0, none⟩), .int .i64 (q : Int)] w fun e w' => e = .returned (.pointer (some ⟨Q q, 0, none⟩)) ∧ w = w' := by
  obtain ⟨c0, c1, c2, c3, c4⟩ := h.cell
  have hp := h.ptr hq hs
  have h1 : ¬ (q : Int) < 0 := by omega
  have h2 : (q : Int) < (c.n : Int) := by omega
  go_enter Try.func43, Try.ntmps43
  go_wp2
  go_ret
  exact ⟨rfl, rfl⟩
set_option maxHeartbeats 800000 in
theorem of_no (h : PD w F c D d O Q C) (_hn : c.n ≤ 16) (hsf : c.self < c.n) (q : Int) (hq : otherB c q = false) :
    Calls Try.prog 43 #[.pointer (some ⟨D, 0, none⟩), .int .i64 q] w fun e w' => e = .returned (.pointer none) ∧ w = w' := by
  obtain ⟨c0, c1, c2, c3, c4⟩ := h.cell
  have hp := h.nil_ hsf
  have hq' : q < 0 ∨ (0 ≤ q ∧ (c.n : Int) ≤ q) ∨ q = (c.self : Int) := by
    simp only [otherB, decide_eq_false_iff_not] at hq; omega
  clear hq
  rcases hq' with h1 | ⟨h0, h1⟩ | rfl
  · go_enter Try.func43, Try.ntmps43
    go_wp2
    go_ret
    exact ⟨rfl, rfl⟩
  · have h0' : ¬ q < 0 := by omega
    have h2 : ¬ q < (c.n : Int) := by omega
    go_enter Try.func43, Try.ntmps43
    go_wp2
    go_ret
    exact ⟨rfl, rfl⟩
  · have h1 : ¬ (c.self : Int) < 0 := by omega
    have h2 : (c.self : Int) < (c.n : Int) := by omega
    go_enter Try.func43, Try.ntmps43
    go_wp2
    go_ret
    exact ⟨rfl, rfl⟩
theorem long_any (C : Nat) (t : Int) (w : World) (hc : w.cell? ⟨C, 0, none⟩ = some (.int .i64 t)) :
    Calls Try.prog 84 #[.pointer (some ⟨C, 0, none⟩)] w fun e w' => e = .returned (.int .i64 t) ∧ w = w' := by
  go_enter Try.func84, Try.ntmps84
  go_wp2
  go_ret
  exact ⟨rfl, rfl⟩
set_option maxHeartbeats 800000 in
theorem grow_any (C : Nat) (t s l : Int) (w : World) (c0 : w.cell? ⟨C, 0, none⟩ = some (.int .i64 t)) (c1 : w.cell? ⟨C, 1, none⟩ = some (.int .i64 s)) (c2 : w.cell? ⟨C, 2, none⟩ = some (.int .i64 l)) (hf : w.frozen? ⟨C, 0, none⟩ = false)
    (ht : 0 ≤ t) (ht2 : t ≤ 64) (hs : 0 ≤ s) (hs2 : s ≤ 64) (_hl : 0 ≤ l) (_hl2 : l ≤ 64) :
    Calls Try.prog 83 #[.pointer (some ⟨C, 0, none⟩)] w fun e w' => e = .returned (.tuple #[]) ∧ w' = (w.setCell ⟨C, 0, none⟩ (.int .i64 (min l (t + s)))).drew := by
  go_enter Try.func83, Try.ntmps83
  go_region
  all_goals
    go_end0
    refine ⟨rfl, ?_⟩
    rw [show (if t + s < l then t + s else l) = min l (t + s) by omega]

theorem meth_long (a : Addr) (w : World) : (method 237 109 (.pointer (some a)) "quorate/detect.long").run Try.prog w = .ok (84, .pointer (some a)) w := by kernel_rfl
theorem meth_grow (a : Addr) (w : World) : (method 237 109 (.pointer (some a)) "quorate/detect.grow").run Try.prog w = .ok (83, .pointer (some a)) w := by kernel_rfl
set_option maxRecDepth 100000 in
set_option maxHeartbeats 800000 in
theorem timeout_yes (h : PD w F c D d O Q C) (hn : c.n ≤ 16) {q : Nat} (hq : q < c.n) (hs : q ≠ c.self) :
    Calls Try.prog 22 #[.pointer (some ⟨D, 0, none⟩), .int .i64 (q : Int)] w fun e w' => e = .returned (.int .i64 (d.pr q).tmo) ∧ w = w' := by
  obtain ⟨k0, k1, k2⟩ := h.ccell hq hs
  obtain ⟨o0, o1, o2, o3, o4, o5, o6⟩ := h.ocell hq hs
  have hm := meth_long ⟨C q, 0, none⟩
  go_enter Try.func22, Try.ntmps22
  go_wp2_with fail
  refine (of_yes h hn hq hs).mono ?_
  rintro _ _ ⟨rfl, rfl⟩
  go_wp2_with fail
  refine (long_any _ _ _ k0).mono ?_
  rintro _ _ ⟨rfl, rfl⟩
  go_wp2
  go_ret
  exact ⟨rfl, rfl⟩
set_option maxRecDepth 100000 in
set_option maxHeartbeats 800000 in
theorem timeout_no (h : PD w F c D d O Q C) (hn : c.n ≤ 16) (hsf : c.self < c.n) (q : Int) (hq : otherB c q = false) :
    Calls Try.prog 22 #[.pointer (some ⟨D, 0, none⟩), .int .i64 q] w fun e w' => e = .returned (.int .i64 0) ∧ w = w' := by
  go_enter Try.func22, Try.ntmps22
  go_wp2_with fail
  refine (of_no h hn hsf q hq).mono ?_
  rintro _ _ ⟨rfl, rfl⟩
  go_wp2
  go_ret
  exact ⟨rfl, rfl⟩
set_option maxRecDepth 100000 in
set_option maxHeartbeats 800000 in
theorem wrong_yes (h : PD w F c D d O Q C) (hn : c.n ≤ 16) {q : Nat} (hq : q < c.n) (hs : q ≠ c.self) :
    Calls Try.prog 21 #[.pointer (some ⟨D, 0, none⟩), .int .i64 (q : Int)] w fun e w' => e = .returned (.int .i64 (d.pr q).wrong) ∧ w = w' := by
  obtain ⟨o0, o1, o2, o3, o4, o5, o6⟩ := h.ocell hq hs
  go_enter Try.func21, Try.ntmps21
  go_wp2_with fail
  refine (of_yes h hn hq hs).mono ?_
  rintro _ _ ⟨rfl, rfl⟩
  go_wp2
  go_ret
  exact ⟨rfl, rfl⟩
set_option maxRecDepth 100000 in
set_option maxHeartbeats 800000 in
theorem wrong_no (h : PD w F c D d O Q C) (hn : c.n ≤ 16) (hsf : c.self < c.n) (q : Int) (hq : otherB c q = false) :
    Calls Try.prog 21 #[.pointer (some ⟨D, 0, none⟩), .int .i64 q] w fun e w' => e = .returned (.int .i64 0) ∧ w = w' := by
  go_enter Try.func21, Try.ntmps21
  go_wp2_with fail
  refine (of_no h hn hsf q hq).mono ?_
  rintro _ _ ⟨rfl, rfl⟩
  go_wp2
  go_ret
  exact ⟨rfl, rfl⟩
set_option maxRecDepth 100000 in
set_option maxHeartbeats 800000 in
theorem known_any (h : PD w F c D d O Q C) (hn : c.n ≤ 16) (hsf : c.self < c.n) (q : Int) :
    Calls Try.prog 26 #[.pointer (some ⟨D, 0, none⟩), .int .i64 q] w fun e w' => e = .returned (.int .i64 (knownQ c d q)) ∧ w = w' := by
  obtain ⟨c0, c1, c2, c3, c4⟩ := h.cell
  by_cases hqs : q = (c.self : Int)
  · have hk : knownQ c d q = c.inc := by rw [knownQ, if_pos hqs]
    have HK := Lib.hid hk
    clear hk
    have hb : (q == (c.self : Int)) = true := by simpa using hqs
    clear hqs
    go_enter Try.func26, Try.ntmps26
    go_wp2
    go_ret
    exact ⟨ret_int HK.out.symm, rfl⟩
  · have hb : (q == (c.self : Int)) = false := by simpa using hqs
    cases ho : otherB c q with
    | true =>
      have ho' : 0 ≤ q ∧ q < (c.n : Int) := by simp only [otherB, decide_eq_true_eq] at ho; omega
      obtain ⟨j, rfl⟩ := Int.eq_ofNat_of_zero_le ho'.1
      have hj : j < c.n := by omega
      have hjs : j ≠ c.self := by omega
      have hk : knownQ c d (j : Int) = (d.pr j).known := by rw [knownQ, if_neg hqs, if_pos ho, Int.toNat_natCast]
      have HK := Lib.hid hk
      obtain ⟨o0, o1, o2, o3, o4, o5, o6⟩ := h.ocell hj hjs
      clear hk hqs ho ho'
      go_enter Try.func26, Try.ntmps26
      go_wp2_with fail
      refine (of_yes h hn hj hjs).mono ?_
      rintro _ _ ⟨rfl, rfl⟩
      go_wp2
      go_ret
      exact ⟨ret_int HK.out.symm, rfl⟩
    | false =>
      have hk : knownQ c d q = 0 := by rw [knownQ, if_neg hqs, ho]; simp
      have HK := Lib.hid hk
      have HO := Lib.hid ho
      clear hk hqs ho
      go_enter Try.func26, Try.ntmps26
      go_wp2_with fail
      refine (of_no h hn hsf q HO.out).mono ?_
      rintro _ _ ⟨rfl, rfl⟩
      go_wp2
      go_ret
      exact ⟨ret_int HK.out.symm, rfl⟩
