/-
  A packet as its cells; what must be empty in it beside the kind's own part.
-/
import Derived.Test.YtffcepaegcllmaaDoorPackV5
import Derived.Test.YtffcepaegcllmaaDoorPackS2
namespace Go.Proofs.YtffcepaegcllmaaDoor
open Go.RowKit

/-- A packet's cells. -/
structure Pk where
  k : Int
  s : Int
  si : Int
  d : Int
  di : Int
  tk : Int
  hA : Option Addr
  hn : Nat
  hc : Nat
  pA : Option Addr
  pn : Nat
  pc : Nat
  cid : Int
  rev : Int
  top : Int
  p1 : Int
  p2 : Int
  p3 : Int
  p4 : Int
  vA : Option Addr
  vn : Nat
  vc : Nat
  f1 : Int
  f2 : Int
  f3 : Int
  f4 : Int
  base : Int
  sA : Option Addr
  sn : Nat
  sc : Nat
  eA : Option Addr
  en : Nat
  ec : Nat
  w1 : Int
  w2 : Int
  w3 : Int
  w4 : Int
  done : Int
  pfx : Int
  t1 : Int
  t2 : Int
  t3 : Int
  t4 : Int
  seq : Int
  bA : Option Addr
  bn : Nat
  bc : Nat
  a1 : Int
  a2 : Int
  a3 : Int
  a4 : Int
  upto : Int
  g1 : Int
  g2 : Int
  g3 : Int
  g4 : Int
  mA : Option Addr
  mn : Nat
  mc : Nat
/-- The value's cells, in the type's order. -/
abbrev Pk.cells (p : Pk) : Array Value := #[.int .i64 p.k, .int .i64 p.s, .int .i64 p.si, .int .i64 p.d, .int .i64 p.di,
  .int .i64 p.tk, .slice p.hA p.hn p.hc,
  .slice p.pA p.pn p.pc, .int .i64 p.cid, .int .i64 p.rev, .int .i64 p.top, .int .i64 p.p1, .int .i64 p.p2, .int .i64 p.p3, .int .i64 p.p4, .slice p.vA p.vn p.vc,
  .int .i64 p.f1, .int .i64 p.f2, .int .i64 p.f3, .int .i64 p.f4, .int .i64 p.base, .slice p.sA p.sn p.sc, .slice p.eA p.en p.ec,
  .int .i64 p.w1, .int .i64 p.w2, .int .i64 p.w3, .int .i64 p.w4, .int .i64 p.done, .int .i64 p.pfx,
  .int .i64 p.t1, .int .i64 p.t2, .int .i64 p.t3, .int .i64 p.t4, .int .i64 p.seq, .slice p.bA p.bn p.bc,
  .int .i64 p.a1, .int .i64 p.a2, .int .i64 p.a3, .int .i64 p.a4, .int .i64 p.upto,
  .int .i64 p.g1, .int .i64 p.g2, .int .i64 p.g3, .int .i64 p.g4, .slice p.mA p.mn p.mc]
def Pk.e1 (p : Pk) : Bool := decide (p.tk = 0) && decide (p.hn = 0)
def Pk.e2 (p : Pk) : Bool := decide (p.pn = 0) && decide (p.vn = 0) && decide (p.cid = 0) && decide (p.rev = 0) && decide (p.top = 0) && noneB p.p1 p.p2 p.p3 p.p4
def Pk.e3 (p : Pk) : Bool := noneB p.f1 p.f2 p.f3 p.f4 && decide (p.base = 0) && decide (p.sn = 0) && decide (p.en = 0)
def Pk.e4 (p : Pk) : Bool := noneB p.w1 p.w2 p.w3 p.w4 && decide (p.done = 0) && decide (p.pfx = 0)
def Pk.e5 (p : Pk) : Bool := noneB p.t1 p.t2 p.t3 p.t4 && decide (p.seq = 0) && decide (p.bn = 0)
def Pk.e6 (p : Pk) : Bool := noneB p.a1 p.a2 p.a3 p.a4 && decide (p.upto = 0)
def Pk.e7 (p : Pk) : Bool := noneB p.g1 p.g2 p.g3 p.g4 && decide (p.mn = 0)
def Pk.others (p : Pk) : Bool := (decide (p.k = 1) || p.e1) && (decide (p.k = 2) || p.e2) && (decide (p.k = 3) || p.e3) && (decide (p.k = 4) || p.e4) && (decide (p.k = 5) || p.e5) && (decide (p.k = 6) || p.e6) && (decide (p.k = 7) || p.e7)

theorem three_box (w : World) (o o' o'' : Obj) : Below w.heap.size w (((w.alloc o).alloc o').alloc o'') := Below.then (two_box w o o') (one_box _ o'')
set_option maxRecDepth 100000 in
set_option maxHeartbeats 3200000 in
theorem empty1 (p : Pk) (w : World) : Calls Tryd.prog 89 #[.agg p.cells, .int .i64 1] w fun r w' => r = .returned (.bool p.e1) ∧ Below w.heap.size w w' := by
  go_enter Tryd.func89, Tryd.ntmps89
  go_wp2
  all_goals go_ret
  all_goals refine ⟨ret_bool ?_, by first | exact two_box _ _ _ | exact three_box _ _ _ _⟩
  all_goals
    simp_all [Pk.e1] <;> first | omega | (intros; omega) | (rw [Bool.eq_iff_iff]; simp; done) | (rw [Bool.eq_iff_iff]; simp; omega)
set_option maxRecDepth 100000 in
set_option maxHeartbeats 3200000 in
theorem empty2 (p : Pk) (w : World) : Calls Tryd.prog 89 #[.agg p.cells, .int .i64 2] w fun r w' => r = .returned (.bool p.e2) ∧ Below w.heap.size w w' := by
  go_enter Tryd.func89, Tryd.ntmps89
  go_wp2
  all_goals go_ret
  all_goals refine ⟨ret_bool ?_, by first | exact two_box _ _ _ | exact three_box _ _ _ _⟩
  all_goals
    simp_all [Pk.e2, noneB] <;> first | omega | (intros; omega) | (rw [Bool.eq_iff_iff]; simp; done) | (rw [Bool.eq_iff_iff]; simp; omega)
set_option maxRecDepth 100000 in
set_option maxHeartbeats 3200000 in
theorem empty3 (p : Pk) (w : World) : Calls Tryd.prog 89 #[.agg p.cells, .int .i64 3] w fun r w' => r = .returned (.bool p.e3) ∧ Below w.heap.size w w' := by
  go_enter Tryd.func89, Tryd.ntmps89
  go_wp2
  all_goals go_ret
  all_goals refine ⟨ret_bool ?_, by first | exact two_box _ _ _ | exact three_box _ _ _ _⟩
  all_goals
    simp_all [Pk.e3, noneB] <;> first | omega | (intros; omega) | (rw [Bool.eq_iff_iff]; simp; done) | (rw [Bool.eq_iff_iff]; simp; omega)
set_option maxRecDepth 100000 in
set_option maxHeartbeats 3200000 in
theorem empty4 (p : Pk) (w : World) : Calls Tryd.prog 89 #[.agg p.cells, .int .i64 4] w fun r w' => r = .returned (.bool p.e4) ∧ Below w.heap.size w w' := by
  go_enter Tryd.func89, Tryd.ntmps89
  go_wp2
  all_goals go_ret
  all_goals refine ⟨ret_bool ?_, by first | exact two_box _ _ _ | exact three_box _ _ _ _⟩
  all_goals
    simp_all [Pk.e4, noneB] <;> first | omega | (intros; omega) | (rw [Bool.eq_iff_iff]; simp; done) | (rw [Bool.eq_iff_iff]; simp; omega)
set_option maxRecDepth 100000 in
set_option maxHeartbeats 3200000 in
theorem empty5 (p : Pk) (w : World) : Calls Tryd.prog 89 #[.agg p.cells, .int .i64 5] w fun r w' => r = .returned (.bool p.e5) ∧ Below w.heap.size w w' := by
  go_enter Tryd.func89, Tryd.ntmps89
  go_wp2
  all_goals go_ret
  all_goals refine ⟨ret_bool ?_, by first | exact two_box _ _ _ | exact three_box _ _ _ _⟩
  all_goals
    simp_all [Pk.e5, noneB] <;> first | omega | (intros; omega) | (rw [Bool.eq_iff_iff]; simp; done) | (rw [Bool.eq_iff_iff]; simp; omega)
set_option maxRecDepth 100000 in
set_option maxHeartbeats 3200000 in
theorem empty6 (p : Pk) (w : World) : Calls Tryd.prog 89 #[.agg p.cells, .int .i64 6] w fun r w' => r = .returned (.bool p.e6) ∧ Below w.heap.size w w' := by
  go_enter Tryd.func89, Tryd.ntmps89
  go_wp2
  all_goals go_ret
  all_goals refine ⟨ret_bool ?_, by first | exact two_box _ _ _ | exact three_box _ _ _ _⟩
  all_goals
    simp_all [Pk.e6, noneB] <;> first | omega | (intros; omega) | (rw [Bool.eq_iff_iff]; simp; done) | (rw [Bool.eq_iff_iff]; simp; omega)
set_option maxRecDepth 100000 in
set_option maxHeartbeats 3200000 in
theorem empty7 (p : Pk) (w : World) : Calls Tryd.prog 89 #[.agg p.cells, .int .i64 7] w fun r w' => r = .returned (.bool p.e7) ∧ Below w.heap.size w w' := by
  go_enter Tryd.func89, Tryd.ntmps89
  go_wp2
  all_goals go_ret
  all_goals refine ⟨ret_bool ?_, by first | exact two_box _ _ _ | exact three_box _ _ _ _⟩
  all_goals
    simp_all [Pk.e7, noneB] <;> first | omega | (intros; omega) | (rw [Bool.eq_iff_iff]; simp; done) | (rw [Bool.eq_iff_iff]; simp; omega)
end Go.Proofs.YtffcepaegcllmaaDoor
