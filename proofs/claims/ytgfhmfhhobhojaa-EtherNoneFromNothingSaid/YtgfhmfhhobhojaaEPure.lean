/-
  The network, plainly: what the program keeps, what the document keeps, and that they tell the same. No program text.
-/
import Derived.Test.YtgfhmfhhobhojaaTy
namespace Go.Proofs.Ytgfhmfhhobhojaa
open Go.RowKit

structure ECfg where
  n : Nat
  room : Nat
def ECfg.Ok (c : ECfg) : Prop := 1 ≤ c.n ∧ c.n ≤ 16 ∧ 1 ≤ c.room ∧ c.room ≤ 20000
/-- A packet on its way. -/
structure Flt where
  id : Nat
  src : Nat
  dst : Nat
  due : Nat
  bs : List UInt8
/-- What the program keeps. -/
structure PV where
  clock : Nat
  last : Nat
  down : Nat → Bool
  inc : Nat → Nat
  tk : Nat → Nat
  shut : Nat → Nat → Bool
  slow : Nat → Nat → Nat
  way : List Flt
/-- What the document keeps. -/
structure RV where
  now : Nat
  up : Nat → Bool
  inc : Nat → Nat
  tk : Nat → Nat
  shut : Nat → Nat → Bool
  slow : Nat → Nat → Nat
  all : List (Flt × Bool)
/-- Those that are on their way. -/
def wayOf : List (Flt × Bool) → List Flt
  | [] => []
  | x :: t => if x.2 = true then wayOf t else x.1 :: wayOf t
/-- Their places. -/
def idxOf : List (Flt × Bool) → List Nat
  | [] => []
  | x :: t => if x.2 = true then (idxOf t).map (· + 1) else 0 :: (idxOf t).map (· + 1)
theorem wayOf_append (a b : List (Flt × Bool)) : wayOf (a ++ b) = wayOf a ++ wayOf b := by
  induction a with
  | nil => rfl
  | cons x t ih =>
    simp only [List.cons_append, wayOf]
    split <;> simp [ih]
theorem idxOf_append (a b : List (Flt × Bool)) : idxOf (a ++ b) = idxOf a ++ (idxOf b).map (· + a.length) := by
  induction a with
  | nil => simp [idxOf]
  | cons x t ih =>
    simp only [List.cons_append, idxOf, ih, List.map_append, List.map_map, List.length_cons]
    have e : ((fun x => x + 1) ∘ fun x => x + t.length) = (fun x : Nat => x + (t.length + 1)) := by funext x; simp; omega
    rw [e]
    split <;> simp
theorem idxOf_length (a : List (Flt × Bool)) : (idxOf a).length = (wayOf a).length := by
  induction a with
  | nil => rfl
  | cons x t ih =>
    simp only [idxOf, wayOf]
    split <;> simp [ih]
theorem wayOf_le (a : List (Flt × Bool)) : (wayOf a).length ≤ a.length := by
  induction a with
  | nil => simp [wayOf]
  | cons x t ih =>
    simp only [wayOf]
    split <;> simp <;> omega
theorem idxOf_lt {a : List (Flt × Bool)} {i : Nat} (h : i ∈ idxOf a) : i < a.length := by
  induction a generalizing i with
  | nil => simp [idxOf] at h
  | cons x t ih =>
    simp only [idxOf] at h
    split at h
    · obtain ⟨j, hj, rfl⟩ := List.mem_map.1 h
      have := ih hj; simp; omega
    · rcases List.mem_cons.1 h with rfl | h
      · simp
      · obtain ⟨j, hj, rfl⟩ := List.mem_map.1 h
        have := ih hj; simp; omega
/-- The one at place k: where it is, that it is on its way, and what turning it does. -/
theorem idx_at {a : List (Flt × Bool)} {k i : Nat} (h : (idxOf a)[k]? = some i) :
    ∃ f, a[i]? = some (f, false) ∧ (wayOf a)[k]? = some f ∧ (∀ g, wayOf (a.set i (g, false)) = (wayOf a).set k g) ∧ (∀ g, wayOf (a.set i (g, true)) = (wayOf a).eraseIdx k) := by
  induction a generalizing k i with
  | nil => simp [idxOf] at h
  | cons x t ih =>
    simp only [idxOf] at h
    by_cases hx : x.2 = true
    · rw [if_pos hx, List.getElem?_map] at h
      cases hj : (idxOf t)[k]? with
      | none => rw [hj] at h; cases h
      | some j =>
        rw [hj] at h
        simp only [Option.map_some, Option.some.injEq] at h
        subst h
        obtain ⟨f, h1, h2, h3, h4⟩ := ih hj
        refine ⟨f, by simpa using h1, by simpa [wayOf, hx] using h2, fun g => ?_, fun g => ?_⟩
        · simp only [List.set_cons_succ, wayOf, if_pos hx]; exact h3 g
        · simp only [List.set_cons_succ, wayOf, if_pos hx]; exact h4 g
    · rw [if_neg hx] at h
      cases k with
      | zero =>
        simp only [List.getElem?_cons_zero, Option.some.injEq] at h
        subst h
        have hx2 : x.2 = false := by simpa using hx
        refine ⟨x.1, by rw [List.getElem?_cons_zero, ← hx2], by simp [wayOf, hx], fun g => ?_, fun g => ?_⟩
        · simp [wayOf, hx]
        · simp [wayOf, hx]
      | succ k =>
        rw [List.getElem?_cons_succ, List.getElem?_map] at h
        cases hj : (idxOf t)[k]? with
        | none => rw [hj] at h; cases h
        | some j =>
          rw [hj] at h
          simp only [Option.map_some, Option.some.injEq] at h
          subst h
          obtain ⟨f, h1, h2, h3, h4⟩ := ih hj
          refine ⟨f, by simpa using h1, by simpa [wayOf, hx] using h2, fun g => ?_, fun g => ?_⟩
          · simp only [List.set_cons_succ, wayOf, if_neg hx]; exact congrArg _ (h3 g)
          · simp only [List.set_cons_succ, wayOf, if_neg hx, List.eraseIdx_cons_succ]; exact congrArg _ (h4 g)
/-- A round: those that are due are gone. -/
def rnd (t : Nat) (x : Flt × Bool) : Flt × Bool := if x.2 = false ∧ x.1.due = t then (x.1, true) else x
def outB (t : Nat) (ok : Flt → Bool) (x : Flt × Bool) : Bool := !x.2 && decide (x.1.due = t) && ok x.1
theorem wayOf_rnd (t : Nat) (a : List (Flt × Bool)) (hd : ∀ f ∈ wayOf a, t ≤ f.due) : wayOf (a.map (rnd t)) = (wayOf a).filter fun f => decide (t < f.due) := by
  induction a with
  | nil => rfl
  | cons x l ih =>
    obtain ⟨f, g⟩ := x
    cases g with
    | true =>
      simp only [List.map_cons, rnd, wayOf] at hd ⊢
      simpa [wayOf] using ih (by simpa [wayOf] using hd)
    | false =>
      simp only [wayOf, Bool.false_eq_true, if_false, List.mem_cons, forall_eq_or_imp] at hd
      have ih := ih hd.2
      by_cases he : f.due = t
      · simp [rnd, he, wayOf, ih]
      · have h1 : t < f.due := by have := hd.1; omega
        simp [rnd, he, wayOf, ih, h1]
theorem out_rnd (t : Nat) (ok : Flt → Bool) (a : List (Flt × Bool)) (hd : ∀ f ∈ wayOf a, t ≤ f.due) : ((a.filter (outB t ok)).map (·.1)) = (wayOf a).filter fun f => !decide (t < f.due) && ok f := by
  induction a with
  | nil => rfl
  | cons x l ih =>
    obtain ⟨f, g⟩ := x
    cases g with
    | true => simpa [wayOf, outB] using ih (by simpa [wayOf] using hd)
    | false =>
      simp only [wayOf, Bool.false_eq_true, if_false, List.mem_cons, forall_eq_or_imp] at hd
      have ih := ih hd.2
      by_cases he : f.due = t
      · cases hk : ok f <;> simp [outB, he, wayOf, ih, hk]
      · have h1 : t < f.due := by have := hd.1; omega
        simp [outB, he, wayOf, ih, h1]
end Go.Proofs.Ytgfhmfhhobhojaa
