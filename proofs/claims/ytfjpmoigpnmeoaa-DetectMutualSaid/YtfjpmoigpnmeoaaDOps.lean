/-
  A run's steps, opened.
-/
import Derived.Test.YtfjpmoigpnmeoaaDLaw6
import Derived.Test.YtfjpmoigpnmeoaaStruct
namespace Go.Proofs.Ytfjpmoigpnmeoaa
open Go.ChangeShapes Go.WideShapes Go.ChangeAt Go.RowKit
/-- The k-th step that stands from b, off on. -/
structure OpAt (w : World) (B b off k : Nat) (kd q inc tick : Int) (A : Option Addr) (n cap : Nat) (hs : List Int) : Prop where
  c0 : w.cell? ⟨b, off + k * 5, none⟩ = some (.int .i64 kd)
  c1 : w.cell? ⟨b, off + k * 5 + 1, none⟩ = some (.int .i64 q)
  c2 : w.cell? ⟨b, off + k * 5 + 2, none⟩ = some (.int .i64 inc)
  c3 : w.cell? ⟨b, off + k * 5 + 3, none⟩ = some (.int .i64 tick)
  c4 : w.cell? ⟨b, off + k * 5 + 4, none⟩ = some (.slice A n cap)
  le : n ≤ cap
  cap : n ≤ 17592186043904
  rd : RdI w B A n hs
  kb : -9223372036854775808 ≤ kd ∧ kd ≤ 9223372036854775807
  qb : -9223372036854775808 ≤ q ∧ q ≤ 9223372036854775807
  ib : -9223372036854775808 ≤ inc ∧ inc ≤ 9223372036854775807
  tb : -9223372036854775808 ≤ tick ∧ tick ≤ 9223372036854775807
  hb : ∀ x ∈ hs, -9223372036854775808 ≤ x ∧ x ≤ 9223372036854775807
def Ops (w : World) (B : Nat) (A : Option Addr) (n : Nat) : Prop := 0 < n → ∃ b off, A = some ⟨b, off, none⟩ ∧ b < B ∧ ∀ k, k < n → ∃ kd q inc tick Ac nc capc hs, OpAt w B b off k kd q inc tick Ac nc capc hs
theorem Ops.below {w w' : World} {B : Nat} {A : Option Addr} {n : Nat} (h : Ops w B A n) (hb : Below B w w') : Ops w' B A n := fun hn => by
  obtain ⟨b, off, e, hlt, hk⟩ := h hn
  refine ⟨b, off, e, hlt, fun k hk' => ?_⟩
  obtain ⟨kd, q, inc, tick, Ac, nc, capc, hs, ho⟩ := hk k hk'
  exact ⟨kd, q, inc, tick, Ac, nc, capc, hs, (hb.cell (p := ⟨b, _, none⟩) hlt).trans ho.c0, (hb.cell (p := ⟨b, _, none⟩) hlt).trans ho.c1, (hb.cell (p := ⟨b, _, none⟩) hlt).trans ho.c2, (hb.cell (p := ⟨b, _, none⟩) hlt).trans ho.c3, (hb.cell (p := ⟨b, _, none⟩) hlt).trans ho.c4, ho.le, ho.cap, ho.rd.below hb, ho.kb, ho.qb, ho.ib, ho.tb, ho.hb⟩
theorem Fit.Op {H : Type} {enc : TypeId × Value → H} {W : World} {cs : List Value} {d : DataW H} (h : Fit enc Try.prog W 61 cs d) :
    ∃ (x0 : Int) (x1 : Int) (x2 : Int) (x3 : Int) (A4 : Option Addr) (n4 k4 : Nat) (x4 : List Int), cs = [.int .i64 x0, .int .i64 x1, .int .i64 x2, .int .i64 x3, .slice A4 n4 k4] ∧ -9223372036854775808 ≤ x0 ∧ x0 ≤ 9223372036854775807 ∧ -9223372036854775808 ≤ x1 ∧ x1 ≤ 9223372036854775807 ∧ -9223372036854775808 ≤ x2 ∧ x2 ≤ 9223372036854775807 ∧ -9223372036854775808 ≤ x3 ∧ x3 ≤ 9223372036854775807 ∧ n4 ≤ k4 ∧ k4 * 8 ≤ 140737488351232 ∧ RdI W W.heap.size A4 n4 x4 ∧ (∀ x ∈ x4, -9223372036854775808 ≤ x ∧ x ≤ 9223372036854775807) := by
  have hl := Fit.structLen Try.underlying61 h (by kernel_rfl : Try.prog.cellsOf 61 = 5)
  match cs, hl, h with
  | [c0, c1, c2, c3, c4], _, h =>
  obtain ⟨df_0, f_0⟩ : ∃ di, Fit enc Try.prog W 3 [c0] di := Fit.fld (T := 3) (o := 0) (z := 1) Try.underlying61 h 0 rfl rfl rfl (by kernel_rfl)
  obtain ⟨x0, e0, b0, t0⟩ := f_0.i64 Try.underlying3
  obtain rfl : c0 = .int .i64 x0 := (List.cons.inj e0).1
  obtain ⟨df_1, f_1⟩ : ∃ di, Fit enc Try.prog W 3 [c1] di := Fit.fld (T := 3) (o := 1) (z := 1) Try.underlying61 h 1 rfl rfl rfl (by kernel_rfl)
  obtain ⟨x1, e1, b1, t1⟩ := f_1.i64 Try.underlying3
  obtain rfl : c1 = .int .i64 x1 := (List.cons.inj e1).1
  obtain ⟨df_2, f_2⟩ : ∃ di, Fit enc Try.prog W 3 [c2] di := Fit.fld (T := 3) (o := 2) (z := 1) Try.underlying61 h 2 rfl rfl rfl (by kernel_rfl)
  obtain ⟨x2, e2, b2, t2⟩ := f_2.i64 Try.underlying3
  obtain rfl : c2 = .int .i64 x2 := (List.cons.inj e2).1
  obtain ⟨df_3, f_3⟩ : ∃ di, Fit enc Try.prog W 3 [c3] di := Fit.fld (T := 3) (o := 3) (z := 1) Try.underlying61 h 3 rfl rfl rfl (by kernel_rfl)
  obtain ⟨x3, e3, b3, t3⟩ := f_3.i64 Try.underlying3
  obtain rfl : c3 = .int .i64 x3 := (List.cons.inj e3).1
  obtain ⟨df_4, f_4⟩ : ∃ di, Fit enc Try.prog W 22 [c4] di := Fit.fld (T := 22) (o := 4) (z := 1) Try.underlying61 h 4 rfl rfl rfl (by kernel_rfl)
  obtain ⟨A4, n4, k4, x4, e4, p4, q4, r4, s4⟩ := f_4.ints Try.underlying22 Try.underlying3 (by kernel_rfl) (by kernel_rfl)
  obtain rfl : c4 = .slice A4 n4 k4 := (List.cons.inj e4).1
  exact ⟨x0, x1, x2, x3, A4, n4, k4, x4, rfl, b0, t0, b1, t1, b2, t2, b3, t3, p4, q4, r4, s4⟩
theorem Fit.Run {H : Type} {enc : TypeId × Value → H} {W : World} {cs : List Value} {d : DataW H} (h : Fit enc Try.prog W 27 cs d) :
    ∃ (x0 : Int) (x1 : Int) (x2 : Int) (x3 : Int) (x4 : Int) (x5 : Int) (A6 : Option Addr) (n6 k6 : Nat) (x6 : List (List Value)), cs = [.int .i64 x0, .int .i64 x1, .int .i64 x2, .int .i64 x3, .int .i64 x4, .int .i64 x5, .slice A6 n6 k6] ∧ -9223372036854775808 ≤ x0 ∧ x0 ≤ 9223372036854775807 ∧ -9223372036854775808 ≤ x1 ∧ x1 ≤ 9223372036854775807 ∧ -9223372036854775808 ≤ x2 ∧ x2 ≤ 9223372036854775807 ∧ -9223372036854775808 ≤ x3 ∧ x3 ≤ 9223372036854775807 ∧ -9223372036854775808 ≤ x4 ∧ x4 ≤ 9223372036854775807 ∧ -9223372036854775808 ≤ x5 ∧ x5 ≤ 9223372036854775807 ∧ n6 ≤ k6 ∧ k6 * 56 ≤ 140737488351232 ∧ x6.length = n6 ∧ Rd W W.heap.size 5 A6 n6 x6.flatten ∧ (∀ y ∈ x6, y.length = 5 ∧ ∃ d, Fit enc Try.prog W 61 y d) := by
  have hl := Fit.structLen Try.underlying27 h (by kernel_rfl : Try.prog.cellsOf 27 = 7)
  match cs, hl, h with
  | [c0, c1, c2, c3, c4, c5, c6], _, h =>
  obtain ⟨df_0, f_0⟩ : ∃ di, Fit enc Try.prog W 3 [c0] di := Fit.fld (T := 3) (o := 0) (z := 1) Try.underlying27 h 0 rfl rfl rfl (by kernel_rfl)
  obtain ⟨x0, e0, b0, t0⟩ := f_0.i64 Try.underlying3
  obtain rfl : c0 = .int .i64 x0 := (List.cons.inj e0).1
  obtain ⟨df_1, f_1⟩ : ∃ di, Fit enc Try.prog W 3 [c1] di := Fit.fld (T := 3) (o := 1) (z := 1) Try.underlying27 h 1 rfl rfl rfl (by kernel_rfl)
  obtain ⟨x1, e1, b1, t1⟩ := f_1.i64 Try.underlying3
  obtain rfl : c1 = .int .i64 x1 := (List.cons.inj e1).1
  obtain ⟨df_2, f_2⟩ : ∃ di, Fit enc Try.prog W 3 [c2] di := Fit.fld (T := 3) (o := 2) (z := 1) Try.underlying27 h 2 rfl rfl rfl (by kernel_rfl)
  obtain ⟨x2, e2, b2, t2⟩ := f_2.i64 Try.underlying3
  obtain rfl : c2 = .int .i64 x2 := (List.cons.inj e2).1
  obtain ⟨df_3, f_3⟩ : ∃ di, Fit enc Try.prog W 3 [c3] di := Fit.fld (T := 3) (o := 3) (z := 1) Try.underlying27 h 3 rfl rfl rfl (by kernel_rfl)
  obtain ⟨x3, e3, b3, t3⟩ := f_3.i64 Try.underlying3
  obtain rfl : c3 = .int .i64 x3 := (List.cons.inj e3).1
  obtain ⟨df_4, f_4⟩ : ∃ di, Fit enc Try.prog W 3 [c4] di := Fit.fld (T := 3) (o := 4) (z := 1) Try.underlying27 h 4 rfl rfl rfl (by kernel_rfl)
  obtain ⟨x4, e4, b4, t4⟩ := f_4.i64 Try.underlying3
  obtain rfl : c4 = .int .i64 x4 := (List.cons.inj e4).1
  obtain ⟨df_5, f_5⟩ : ∃ di, Fit enc Try.prog W 3 [c5] di := Fit.fld (T := 3) (o := 5) (z := 1) Try.underlying27 h 5 rfl rfl rfl (by kernel_rfl)
  obtain ⟨x5, e5, b5, t5⟩ := f_5.i64 Try.underlying3
  obtain rfl : c5 = .int .i64 x5 := (List.cons.inj e5).1
  obtain ⟨df_6, f_6⟩ : ∃ di, Fit enc Try.prog W 25 [c6] di := Fit.fld (T := 25) (o := 6) (z := 1) Try.underlying27 h 6 rfl rfl rfl (by kernel_rfl)
  obtain ⟨A6, n6, k6, x6, e6, p6, q6, l6, r6, s6⟩ := f_6.rows Try.underlying25 (by kernel_rfl : Try.prog.cellsOf 61 = 5) (by kernel_rfl : Try.prog.bytesOf 61 = 56) (by omega)
  obtain rfl : c6 = .slice A6 n6 k6 := (List.cons.inj e6).1
  exact ⟨x0, x1, x2, x3, x4, x5, A6, n6, k6, x6, rfl, b0, t0, b1, t1, b2, t2, b3, t3, b4, t4, b5, t5, p6, q6, l6, r6, s6⟩
theorem ops_open {H : Type} {enc : TypeId × Value → H} {W : World} {Av : Option Addr} {n : Nat} {es : List (List Value)} (hl : es.length = n) (hr : Rd W W.heap.size 5 Av n es.flatten) (hes : ∀ y ∈ es, y.length = 5 ∧ ∃ d, Fit enc Try.prog W 61 y d) : Ops W W.heap.size Av n := fun hn => by
  obtain ⟨b, off, e, hlt, hc⟩ := hr.at_ hn
  refine ⟨b, off, e, hlt, fun k hk => ?_⟩
  obtain ⟨y, hy⟩ : ∃ y, es[k]? = some y := ⟨_, List.getElem?_eq_getElem (by omega)⟩
  obtain ⟨h3, d, hd⟩ := hes y (List.mem_of_getElem? hy)
  obtain ⟨x0, x1, x2, x3, A4, n4, k4, x4, hcs, b0, t0, b1, t1, b2, t2, b3, t3, p4, q4, r4, s4⟩ := Fit.Op hd
  have hall := flat_at (z := 5) (es := es) (fun x hx => (hes x hx).1) k
  have hg := fun (j : Nat) (u : Value) (hj : j < 5) (hu : y[j]? = some u) => hc (k * 5 + j) u ((hall j hj).trans (by rw [hy]; exact hu))
  have a0 := hg 0 (.int .i64 x0) (by omega) (by rw [hcs]; rfl)
  have a1 := hg 1 (.int .i64 x1) (by omega) (by rw [hcs]; rfl)
  have a2 := hg 2 (.int .i64 x2) (by omega) (by rw [hcs]; rfl)
  have a3 := hg 3 (.int .i64 x3) (by omega) (by rw [hcs]; rfl)
  have a4 := hg 4 (.slice A4 n4 k4) (by omega) (by rw [hcs]; rfl)
  rw [← Nat.add_assoc] at a1 a2 a3 a4
  exact ⟨x0, x1, x2, x3, A4, n4, k4, x4, a0, a1, a2, a3, a4, p4, by omega, r4, ⟨b0, t0⟩, ⟨b1, t1⟩, ⟨b2, t2⟩, ⟨b3, t3⟩, s4⟩
end Go.Proofs.Ytfjpmoigpnmeoaa
