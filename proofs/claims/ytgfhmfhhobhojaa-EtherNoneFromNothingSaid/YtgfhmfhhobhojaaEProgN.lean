/-
  The program's network: Up, Inc, Ticks, Clock, Tick, Crash, Restart. And: The program's network: the calls of nodes.
-/
import Derived.Test.YtgfhmfhhobhojaaEState
import Derived.IntWalk
import Derived.Deep.QuietTactic
import Derived.BigQuiet
import Derived.WalkSpells
import Derived.Outline
import Derived.RegionTactic
import Derived.BigRegion
import Derived.Deep.CutRange
import Derived.StillTailTactics
import Derived.Deep.RegionHeld3
namespace Go.Proofs.Ytgfhmfhhobhojaa
open Go.RowKit
variable {w : World} {F : Nat → Prop} {c : ECfg} {D : Nat} {p : PV} {m : Nat}

def hasB (c : ECfg) (q : Int) : Bool := decide (0 ≤ q ∧ q < (c.n : Int))
theorem hasB_cases (c : ECfg) (q : Int) : (∃ k : Nat, q = (k : Int) ∧ k < c.n ∧ hasB c q = true) ∨ hasB c q = false := by
  by_cases h : 0 ≤ q ∧ q < (c.n : Int)
  · exact .inl ⟨q.toNat, by omega, by omega, by simpa [hasB] using h⟩
  · exact .inr (by simpa [hasB] using h)
def joinB (c : ECfg) (a b : Int) : Bool := hasB c a && hasB c b && (a != b)
theorem joinB_cases (c : ECfg) (a b : Int) : (∃ i j : Nat, a = (i : Int) ∧ b = (j : Int) ∧ i < c.n ∧ j < c.n ∧ i ≠ j ∧ joinB c a b = true) ∨ joinB c a b = false := by
  unfold joinB
  rcases hasB_cases c a with ⟨i, rfl, hi, h1⟩ | h1
  · rcases hasB_cases c b with ⟨j, rfl, hj, h2⟩ | h2
    · by_cases h : i = j
      · exact .inr (by rw [h]; simp)
      · refine .inl ⟨i, j, rfl, rfl, hi, hj, h, ?_⟩
        rw [h1, h2]
        simp; omega
    · exact .inr (by rw [h2]; simp)
  · exact .inr (by rw [h1]; simp)
set_option maxRecDepth 100000 in
theorem has_any (h : PNx w F c D p m) (q : Int) : Calls Try.prog 40 #[.pointer (some ⟨D, 0, none⟩), .int .i64 q] w fun e w' => e = .returned (.bool (hasB c q)) ∧ w = w' := by
  obtain ⟨_, P, S, L, v, X, h⟩ := h
  obtain ⟨c0, c1, c2, c3, c4, c5, c6⟩ := h.cell
  clear h c0 c1 c2 c4 c5 c6
  by_cases h0 : q ≥ 0
  · by_cases h1 : q < (c.n : Int)
    · go_enter Try.func40, Try.ntmps40
      go_wp2
      go_ret
      exact ⟨ret_bool (by simp [hasB]; omega), rfl⟩
    · go_enter Try.func40, Try.ntmps40
      go_wp2
      go_ret
      exact ⟨ret_bool (by simp [hasB]; omega), rfl⟩
  · go_enter Try.func40, Try.ntmps40
    go_wp2
    go_ret
    exact ⟨ret_bool (by simp [hasB]; omega), rfl⟩
set_option maxRecDepth 100000 in
theorem joins_any (h : PNx w F c D p m) (a b : Int) : Calls Try.prog 41 #[.pointer (some ⟨D, 0, none⟩), .agg #[.int .i64 a, .int .i64 b]] w fun e w' => e = .returned (.bool (joinB c a b)) ∧ Below w.heap.size w w' := by
  have hb0 := one_box' w (.cells #[.int .i64 a, .int .i64 b] 89)
  have hX := Blk.new w 89 #[.int .i64 a, .int .i64 b]
  have hp := h.below hb0
  obtain ⟨w0, hw0⟩ : ∃ w0, w0 = w.alloc (.cells #[.int .i64 a, .int .i64 b] 89) := ⟨_, rfl⟩
  rw [← hw0] at hb0 hX hp
  have HW := Lib.hid hw0
  have HB := Lib.hid hb0
  have x0 : w0.cell? ⟨w.heap.size, 0, none⟩ = some (.int .i64 a) := hX.cell 0
  have x1 : w0.cell? ⟨w.heap.size, 1, none⟩ = some (.int .i64 b) := hX.cell 1
  have HH := Lib.hid fun (q : Int) => has_any hp q
  clear hw0 hX hb0 hp h
  cases h1 : hasB c a with
  | false =>
    have HE : Hid (joinB c a b = false) := Lib.hid (by simp [joinB, h1])
    go_enter Try.func41, Try.ntmps41
    go_upto_region 1 with fail
    rw [← HW.out]
    go_wp2_with ((refine (HH.out _).mono ?_; rintro _ _ ⟨rfl, rfl⟩))
    go_ret
    exact ⟨ret_bool HE.out.symm, HB.out⟩
  | true =>
    cases h2 : hasB c b with
    | false =>
      have HE : Hid (joinB c a b = false) := Lib.hid (by simp [joinB, h2])
      go_enter Try.func41, Try.ntmps41
      go_upto_region 1 with fail
      rw [← HW.out]
      go_wp2_with ((refine (HH.out _).mono ?_; rintro _ _ ⟨rfl, rfl⟩))
      go_ret
      exact ⟨ret_bool HE.out.symm, HB.out⟩
    | true =>
      have HE : Hid (joinB c a b = (a != b)) := Lib.hid (by simp [joinB, h1, h2])
      go_enter Try.func41, Try.ntmps41
      go_upto_region 1 with fail
      rw [← HW.out]
      go_wp2_with ((refine (HH.out _).mono ?_; rintro _ _ ⟨rfl, rfl⟩))
      go_ret
      exact ⟨ret_bool HE.out.symm, HB.out⟩
end Go.Proofs.Ytgfhmfhhobhojaa
namespace Go.Proofs.Ytgfhmfhhobhojaa
open Go.RowKit
variable {w : World} {F : Nat → Prop} {c : ECfg} {D : Nat} {p : PV} {m : Nat}
def upA (c : ECfg) (down : Nat → Bool) (q : Int) : Bool := hasB c q && !down q.toNat
def numA (c : ECfg) (f : Nat → Nat) (q : Int) : Int := if hasB c q = true then (f q.toNat : Int) else 0
set_option maxRecDepth 100000 in
theorem Up_any (h : PNx w F c D p m) (q : Int) : Calls Try.prog 18 #[.pointer (some ⟨D, 0, none⟩), .int .i64 q] w fun e w' => e = .returned (.bool (upA c p.down q)) ∧ w = w' := by
  have HH := Lib.hid (has_any h q)
  rcases hasB_cases c q with ⟨k, rfl, hk, hb⟩ | hb
  · obtain ⟨_, P, S, L, v, X, h⟩ := h
    obtain ⟨c0, c1, c2, c3, c4, c5, c6⟩ := h.cell
    obtain ⟨n0, n1, n2⟩ := h.peer hk
    have hkI : (k : Int) < (c.n : Int) := by omega
    have HE : Hid (hasB c (k : Int) = true) := Lib.hid hb
    clear h c0 c1 c2 c4 c5 c6
    go_enter Try.func18, Try.ntmps18
    go_wp2_with ((refine HH.out.mono ?_; rintro _ _ ⟨rfl, rfl⟩))
    go_ret
    exact ⟨ret_bool (by simp [upA, HE.out]), rfl⟩
  · have HE : Hid (hasB c q = false) := Lib.hid hb
    clear h
    go_enter Try.func18, Try.ntmps18
    go_wp2_with ((refine HH.out.mono ?_; rintro _ _ ⟨rfl, rfl⟩))
    go_ret
    exact ⟨ret_bool (by simp [upA, HE.out]), rfl⟩
set_option maxRecDepth 100000 in
theorem Inc_any (h : PNx w F c D p m) (q : Int) : Calls Try.prog 32 #[.pointer (some ⟨D, 0, none⟩), .int .i64 q] w fun e w' => e = .returned (.int .i64 (numA c p.inc q)) ∧ w = w' := by
  have HH := Lib.hid (has_any h q)
  rcases hasB_cases c q with ⟨k, rfl, hk, hb⟩ | hb
  · obtain ⟨_, P, S, L, v, X, h⟩ := h
    obtain ⟨c0, c1, c2, c3, c4, c5, c6⟩ := h.cell
    obtain ⟨n0, n1, n2⟩ := h.peer hk
    have hkI : (k : Int) < (c.n : Int) := by omega
    have HE : Hid (hasB c (k : Int) = true) := Lib.hid hb
    clear h c0 c1 c2 c4 c5 c6
    go_enter Try.func32, Try.ntmps32
    go_wp2_with ((refine HH.out.mono ?_; rintro _ _ ⟨rfl, rfl⟩))
    go_ret
    exact ⟨ret_int (by simp [numA, HE.out]), rfl⟩
  · have HE : Hid (hasB c q = false) := Lib.hid hb
    clear h
    go_enter Try.func32, Try.ntmps32
    go_wp2_with ((refine HH.out.mono ?_; rintro _ _ ⟨rfl, rfl⟩))
    go_ret
    exact ⟨ret_int (by simp [numA, HE.out]), rfl⟩
set_option maxRecDepth 100000 in
theorem Ticks_any (h : PNx w F c D p m) (q : Int) : Calls Try.prog 56 #[.pointer (some ⟨D, 0, none⟩), .int .i64 q] w fun e w' => e = .returned (.int .i64 (numA c p.tk q)) ∧ w = w' := by
  have HH := Lib.hid (has_any h q)
  rcases hasB_cases c q with ⟨k, rfl, hk, hb⟩ | hb
  · obtain ⟨_, P, S, L, v, X, h⟩ := h
    obtain ⟨c0, c1, c2, c3, c4, c5, c6⟩ := h.cell
    obtain ⟨n0, n1, n2⟩ := h.peer hk
    have hkI : (k : Int) < (c.n : Int) := by omega
    have HE : Hid (hasB c (k : Int) = true) := Lib.hid hb
    clear h c0 c1 c2 c4 c5 c6
    go_enter Try.func56, Try.ntmps56
    go_wp2_with ((refine HH.out.mono ?_; rintro _ _ ⟨rfl, rfl⟩))
    go_ret
    exact ⟨ret_int (by simp [numA, HE.out]), rfl⟩
  · have HE : Hid (hasB c q = false) := Lib.hid hb
    clear h
    go_enter Try.func56, Try.ntmps56
    go_wp2_with ((refine HH.out.mono ?_; rintro _ _ ⟨rfl, rfl⟩))
    go_ret
    exact ⟨ret_int (by simp [numA, HE.out]), rfl⟩
set_option maxRecDepth 100000 in
theorem Clock_any (h : PNx w F c D p m) : Calls Try.prog 24 #[.pointer (some ⟨D, 0, none⟩)] w fun e w' => e = .returned (.int .i64 (p.clock : Int)) ∧ w = w' := by
  obtain ⟨_, P, S, L, v, X, h⟩ := h
  obtain ⟨c0, c1, c2, c3, c4, c5, c6⟩ := h.cell
  clear h c0 c2 c3 c4 c5 c6
  go_enter Try.func24, Try.ntmps24
  go_wp2
  go_ret
  exact ⟨rfl, rfl⟩
/-- A call that answers e and leaves the view p'. -/
def StepP (w : World) (F : Nat → Prop) (c : ECfg) (D : Nat) (m : Nat) (v : Value) (p' : PV) (e : Ending) (w' : World) : Prop :=
  e = .returned v ∧ ∃ F', PNx w' F' c D p' m ∧ (∀ k, F' k → F k ∨ w.heap.size ≤ k) ∧ Chg F w w'
theorem StepP.same {v : Value} (h : PNx w F c D p m) {w' : World} (hb : Below w.heap.size w w') : StepP w F c D m v p (.returned v) w' := ⟨rfl, F, h.below hb, fun _ h => .inl h, Chg.of_below hb F⟩
def Tick_e (c : ECfg) (down : Nat → Bool) (q : Int) : Int := if hasB c q = true then (if down q.toNat = true then 32 else 0) else 1
def Tick_r (c : ECfg) (down : Nat → Bool) (tk : Nat → Nat) (q : Int) : Int := if Tick_e c down q = 0 then (tk q.toNat : Int) + 1 else 0
def tickP (c : ECfg) (p : PV) (q : Int) : PV := if Tick_e c p.down q = 0 then { p with tk := updN p.tk q.toNat (p.tk q.toNat + 1) } else p
def crashP (c : ECfg) (p : PV) (q : Int) : PV := if Tick_e c p.down q = 0 then { p with down := updB p.down q.toNat true } else p
def Rest_e (c : ECfg) (down : Nat → Bool) (q : Int) : Int := if hasB c q = true then (if down q.toNat = true then 0 else 33) else 1
def Rest_r (c : ECfg) (down : Nat → Bool) (inc : Nat → Nat) (q : Int) : Int := if Rest_e c down q = 0 then (inc q.toNat : Int) + 1 else 0
def restP (c : ECfg) (p : PV) (q : Int) : PV := if Rest_e c p.down q = 0 then { p with down := updB p.down q.toNat false, inc := updN p.inc q.toNat (p.inc q.toNat + 1), tk := updN p.tk q.toNat 0 } else p
theorem region_tail {P : Program} {id : Nat} {Q : Exit → Act → World → Prop} {a : Act} {w : World} {l : List Oper} (n : Nat) (hm : P.follows .mixedOrders = true) (hB : Region.lexTailB .any l.toArray n = true)
    (h : wpStill P l.toArray w.drew (fun a' => wpList P l.toArray Q (l.drop n) a' w.drew) (l.take n) a) : (Code.region id l.toArray true).wp P Q a w := wp_region_still_tail n hm hB h
set_option maxRecDepth 100000 in
theorem Tick_any (h : PNx w F c D p m) (q : Int) (ht : ∀ k, k < c.n → p.tk k < 9223372036854775807) : Calls Try.prog 36 #[.pointer (some ⟨D, 0, none⟩), .int .i64 q] w (StepP w F c D m (.tuple #[.int .i64 (Tick_r c p.down p.tk q), .int .i64 (Tick_e c p.down q)]) (tickP c p q)) := by
  have HH := Lib.hid (has_any h q)
  have HX := Lib.hid h
  rcases hasB_cases c q with ⟨k, rfl, hk, hb⟩ | hb
  · obtain ⟨hF, P, S, L, v, X, h⟩ := h
    obtain ⟨c0, c1, c2, c3, c4, c5, c6⟩ := h.cell
    obtain ⟨n0, n1, n2⟩ := h.peer hk
    have hkI : (k : Int) < (c.n : Int) := by omega
    have HE : Hid (hasB c (k : Int) = true) := Lib.hid hb
    cases hd : p.down k with
    | true =>
      rw [hd] at n0
      have HD : Hid (p.down k = true) := Lib.hid hd
      clear h c0 c1 c2 c4 c5 c6 hd
      go_enter Try.func36, Try.ntmps36
      go_wp2_with ((refine HH.out.mono ?_; rintro _ _ ⟨rfl, rfl⟩))
      go_ret2
      have h0 : Tick_e c p.down (k : Int) = 32 := by simp [Tick_e, HE.out, HD.out]
      simp only [Tick_r, tickP, if_false, Int.reduceEq, h0]
      exact StepP.same HX.out (Below.refl _ _)
    | false =>
      rw [hd] at n0
      have HD : Hid (p.down k = false) := Lib.hid hd
      have h0 : Hid (Tick_e c p.down (k : Int) = 0) := Lib.hid (by simp [Tick_e, HE.out, HD.out])
      have hw1 : IntKind.i64.wrap ((p.tk k : Int) + 1) = (p.tk k : Int) + 1 := IntWalk.i64_in _ (by have := ht k hk; omega)
      have hf : w.frozen? ⟨P, k * 3 + 2, none⟩ = false := h.peers.frozen _
      have HN := Lib.hid (h.setP (i := k * 3 + 2) (u := .int .i64 ((p.tk k : Int) + 1)) (p' := { p with tk := updN p.tk k (p.tk k + 1) }) (by rw [← peer_set2]; simp) rfl rfl rfl rfl)
      have HC : Hid (Chg F w (w.setCell ⟨P, k * 3 + 2, none⟩ (.int .i64 ((p.tk k : Int) + 1)))) := Lib.hid ((Chg.refl _ _).setCell (.inl h.fp) _)
      clear h c0 c1 c2 c4 c5 c6 hd
      go_enter Try.func36, Try.ntmps36
      go_wp2_with ((refine HH.out.mono ?_; rintro _ _ ⟨rfl, rfl⟩))
      go_ret2
      simp only [Tick_r, tickP, h0.out, if_true, Int.toNat_natCast]
      exact ⟨rfl, F, ⟨fun k hk => Nat.lt_of_lt_of_le (hF k hk) HC.out.size, P, S, L, v, X, HN.out⟩, fun _ h => .inl h, HC.out⟩
  · have HE : Hid (hasB c q = false) := Lib.hid hb
    clear h
    go_enter Try.func36, Try.ntmps36
    go_wp2_with ((refine HH.out.mono ?_; rintro _ _ ⟨rfl, rfl⟩))
    go_ret2
    have h0 : Tick_e c p.down q = 1 := by simp [Tick_e, HE.out]
    simp only [Tick_r, tickP, if_false, Int.reduceEq, h0]
    exact StepP.same HX.out (Below.refl _ _)
set_option maxRecDepth 100000 in
theorem Crash_any (h : PNx w F c D p m) (q : Int) : Calls Try.prog 37 #[.pointer (some ⟨D, 0, none⟩), .int .i64 q] w (StepP w F c D m (.int .i64 (Tick_e c p.down q)) (crashP c p q)) := by
  have HH := Lib.hid (has_any h q)
  have HX := Lib.hid h
  rcases hasB_cases c q with ⟨k, rfl, hk, hb⟩ | hb
  · obtain ⟨hF, P, S, L, v, X, h⟩ := h
    obtain ⟨c0, c1, c2, c3, c4, c5, c6⟩ := h.cell
    obtain ⟨n0, n1, n2⟩ := h.peer hk
    have hkI : (k : Int) < (c.n : Int) := by omega
    have HE : Hid (hasB c (k : Int) = true) := Lib.hid hb
    cases hd : p.down k with
    | true =>
      rw [hd] at n0
      have HD : Hid (p.down k = true) := Lib.hid hd
      clear h c0 c1 c2 c4 c5 c6 hd
      go_enter Try.func37, Try.ntmps37
      go_wp2_with ((refine HH.out.mono ?_; rintro _ _ ⟨rfl, rfl⟩))
      go_ret
      have h0 : Tick_e c p.down (k : Int) = 32 := by simp [Tick_e, HE.out, HD.out]
      simp only [crashP, if_false, Int.reduceEq, h0]
      exact StepP.same HX.out (Below.refl _ _)
    | false =>
      rw [hd] at n0
      have HD : Hid (p.down k = false) := Lib.hid hd
      have h0 : Hid (Tick_e c p.down (k : Int) = 0) := Lib.hid (by simp [Tick_e, HE.out, HD.out])
      have hf : w.frozen? ⟨P, k * 3, none⟩ = false := h.peers.frozen _
      have HN := Lib.hid (h.setP (i := k * 3) (u := .bool true) (p' := { p with down := updB p.down k true }) (by rw [← peer_set0]) rfl rfl rfl rfl)
      have HC : Hid (Chg F w (w.setCell ⟨P, k * 3, none⟩ (.bool true))) := Lib.hid ((Chg.refl _ _).setCell (.inl h.fp) _)
      clear h c0 c1 c2 c4 c5 c6 hd
      go_enter Try.func37, Try.ntmps37
      go_wp2_with ((refine HH.out.mono ?_; rintro _ _ ⟨rfl, rfl⟩))
      go_ret
      simp only [crashP, h0.out, if_true, Int.toNat_natCast]
      exact ⟨rfl, F, ⟨fun k hk => Nat.lt_of_lt_of_le (hF k hk) HC.out.size, P, S, L, v, X, HN.out⟩, fun _ h => .inl h, HC.out⟩
  · have HE : Hid (hasB c q = false) := Lib.hid hb
    clear h
    go_enter Try.func37, Try.ntmps37
    go_wp2_with ((refine HH.out.mono ?_; rintro _ _ ⟨rfl, rfl⟩))
    go_ret
    have h0 : Tick_e c p.down q = 1 := by simp [Tick_e, HE.out]
    simp only [crashP, if_false, Int.reduceEq, h0]
    exact StepP.same HX.out (Below.refl _ _)
set_option maxRecDepth 100000 in
theorem Restart_any (h : PNx w F c D p m) (q : Int) (ht : ∀ k, k < c.n → p.inc k < 9223372036854775807) : Calls Try.prog 17 #[.pointer (some ⟨D, 0, none⟩), .int .i64 q] w (StepP w F c D m (.tuple #[.int .i64 (Rest_r c p.down p.inc q), .int .i64 (Rest_e c p.down q)]) (restP c p q)) := by
  have HH := Lib.hid (has_any h q)
  have HX := Lib.hid h
  rcases hasB_cases c q with ⟨k, rfl, hk, hb⟩ | hb
  · obtain ⟨hF, P, S, L, v, X, h⟩ := h
    obtain ⟨c0, c1, c2, c3, c4, c5, c6⟩ := h.cell
    obtain ⟨n0, n1, n2⟩ := h.peer hk
    have hkI : (k : Int) < (c.n : Int) := by omega
    have HE : Hid (hasB c (k : Int) = true) := Lib.hid hb
    cases hd : p.down k with
    | false =>
      rw [hd] at n0
      have HD : Hid (p.down k = false) := Lib.hid hd
      clear h c0 c1 c2 c4 c5 c6 hd
      go_enter Try.func17, Try.ntmps17
      go_wp2_with ((refine HH.out.mono ?_; rintro _ _ ⟨rfl, rfl⟩))
      go_ret2
      have h0 : Rest_e c p.down (k : Int) = 33 := by simp [Rest_e, HE.out, HD.out]
      simp only [Rest_r, restP, if_false, Int.reduceEq, h0]
      exact StepP.same HX.out (Below.refl _ _)
    | true =>
      rw [hd] at n0
      have HD : Hid (p.down k = true) := Lib.hid hd
      have h0 : Hid (Rest_e c p.down (k : Int) = 0) := Lib.hid (by simp [Rest_e, HE.out, HD.out])
      have hw1 : IntKind.i64.wrap ((p.inc k : Int) + 1) = (p.inc k : Int) + 1 := IntWalk.i64_in _ (by have := ht k hk; omega)
      obtain ⟨wd, hwd⟩ : ∃ wd, wd = w.drew := ⟨_, rfl⟩
      have hd1 : PN wd F c D p m P S L v X := by rw [hwd]; exact h.chg ((Chg.refl (fun _ => False) w).drewN 1) fun _ _ h => h
      have hbd : Chg F w wd := by rw [hwd]; exact (Chg.refl _ _).drewN 1
      have HWD := Lib.hid hwd
      obtain ⟨d0, d1, d2, d3, d4, d5, d6⟩ := hd1.cell
      obtain ⟨e0, e1, e2⟩ := hd1.peer hk
      rw [hd] at e0
      have f0 : wd.frozen? ⟨P, k * 3, none⟩ = false := hd1.peers.frozen _
      have f1 : wd.frozen? ⟨P, k * 3 + 1, none⟩ = false := hd1.peers.frozen _
      have f2 : wd.frozen? ⟨P, k * 3 + 2, none⟩ = false := hd1.peers.frozen _
      have h1 := hd1.setP (i := k * 3) (u := .bool false) (p' := { p with down := updB p.down k false }) (by rw [← peer_set0]) rfl rfl rfl rfl
      have h2 := h1.setP (i := k * 3 + 1) (u := .int .i64 ((p.inc k : Int) + 1)) (p' := { p with down := updB p.down k false, inc := updN p.inc k (p.inc k + 1) }) (by rw [show ((p.inc k : Int) + 1) = ((p.inc k + 1 : Nat) : Int) by simp, peer_set1]) rfl rfl rfl rfl
      have h3 := h2.setP (i := k * 3 + 2) (u := .int .i64 0) (p' := { p with down := updB p.down k false, inc := updN p.inc k (p.inc k + 1), tk := updN p.tk k 0 }) (by rw [show (0 : Int) = ((0 : Nat) : Int) by rfl, peer_set2]) rfl rfl rfl rfl
      obtain ⟨w3, hw3⟩ : ∃ w3, w3 = ((wd.setCell ⟨P, k * 3, none⟩ (.bool false)).setCell ⟨P, k * 3 + 1, none⟩ (.int .i64 ((p.inc k : Int) + 1))).setCell ⟨P, k * 3 + 2, none⟩ (.int .i64 0) := ⟨_, rfl⟩
      have hc3 : Chg F w (((wd.setCell ⟨P, k * 3, none⟩ (.bool false)).setCell ⟨P, k * 3 + 1, none⟩ (.int .i64 ((p.inc k : Int) + 1))).setCell ⟨P, k * 3 + 2, none⟩ (.int .i64 0)) := ((hbd.setCell (p := ⟨P, k * 3, none⟩) (.inl h.fp) _).setCell (p := ⟨P, k * 3 + 1, none⟩) (.inl h.fp) _).setCell (p := ⟨P, k * 3 + 2, none⟩) (.inl h.fp) _
      rw [← hw3] at h3 hc3
      have HW3 := Lib.hid hw3
      obtain ⟨k0, k1, k2, k3, k4, k5, k6⟩ := h3.cell
      obtain ⟨l0, l1, l2⟩ := h3.peer hk
      have l1' : w3.cell? ⟨P, k * 3 + 1, none⟩ = some (.int .i64 ((p.inc k : Int) + 1)) := by rw [l1]; simp [updN]
      have HN := Lib.hid h3
      have HC := Lib.hid hc3
      clear h h1 h2 h3 hc3 hw3 hwd hbd hd1 c0 c1 c2 c4 c5 c6 d0 d1 d2 d4 d5 d6 k0 k1 k2 k4 k5 k6 l0 l1 l2 hd
      go_enter Try.func17, Try.ntmps17
      go_upto_region 5 with ((refine HH.out.mono ?_; rintro _ _ ⟨rfl, rfl⟩))
      refine region_tail 16 (by kernel_rfl) (by kernel_rfl) ?_
      simp only [List.take_succ_cons, List.take_zero, List.drop_succ_cons, List.drop_zero]
      rw [← HWD.out]
      repeat still_step
      refine wpStill_nil ?_
      change wpList _ _ _ _ _ wd
      go_upto_region 6 with fail
      rw [← HW3.out]
      go_wp2
      go_ret2
      simp only [Rest_r, restP, h0.out, if_true, Int.toNat_natCast]
      exact ⟨rfl, F, ⟨fun k hk => Nat.lt_of_lt_of_le (hF k hk) HC.out.size, P, S, L, v, X, HN.out⟩, fun _ h => .inl h, HC.out⟩
  · have HE : Hid (hasB c q = false) := Lib.hid hb
    clear h
    go_enter Try.func17, Try.ntmps17
    go_wp2_with ((refine HH.out.mono ?_; rintro _ _ ⟨rfl, rfl⟩))
    go_ret2
    have h0 : Rest_e c p.down q = 1 := by simp [Rest_e, HE.out]
    simp only [Rest_r, restP, if_false, Int.reduceEq, h0]
    exact StepP.same HX.out (Below.refl _ _)
end Go.Proofs.Ytgfhmfhhobhojaa
