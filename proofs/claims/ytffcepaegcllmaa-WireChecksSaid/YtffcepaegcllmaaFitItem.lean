/-
  An item, opened.
-/
import Derived.Test.YtffcepaegcllmaaProg
import Derived.Test.YtffcepaegcllmaaStruct
namespace Go.Proofs.Ytffcepaegcllmaa
open Go.ChangeShapes Go.WideShapes Go.ChangeAt Go.RowKit
theorem Fit.Item {H : Type} {enc : TypeId × Value → H} {W : World} {cs : List Value} {d : DataW H} (h : Fit enc Try.prog W 28 cs d) :
    ∃ (x0 : Int) (x1 : Int) (x2 : Int) (x3 : Int) (A4 : Option Addr) (n4 k4 : Nat) (x4 : List UInt8) (x5 : Int) (x6 : Int) (x7 : Int) (x8 : Int), cs = [.int .i64 x0, .int .i64 x1, .int .i64 x2, .int .i64 x3, .slice A4 n4 k4, .int .i64 x5, .int .i64 x6, .int .i64 x7, .int .i64 x8] ∧ -9223372036854775808 ≤ x0 ∧ x0 ≤ 9223372036854775807 ∧ -9223372036854775808 ≤ x1 ∧ x1 ≤ 9223372036854775807 ∧ -9223372036854775808 ≤ x2 ∧ x2 ≤ 9223372036854775807 ∧ -9223372036854775808 ≤ x3 ∧ x3 ≤ 9223372036854775807 ∧ n4 ≤ k4 ∧ k4 ≤ 140737488351232 ∧ RdB W W.heap.size A4 n4 x4 ∧ -9223372036854775808 ≤ x5 ∧ x5 ≤ 9223372036854775807 ∧ -9223372036854775808 ≤ x6 ∧ x6 ≤ 9223372036854775807 ∧ -9223372036854775808 ≤ x7 ∧ x7 ≤ 9223372036854775807 ∧ -9223372036854775808 ≤ x8 ∧ x8 ≤ 9223372036854775807 := by
  have hl := Fit.structLen Try.underlying28 h (by kernel_rfl : Try.prog.cellsOf 28 = 9)
  match cs, hl, h with
  | [c0, c1, c2, c3, c4, c5, c6, c7, c8], _, h =>
  obtain ⟨df_0, f_0⟩ : ∃ di, Fit enc Try.prog W 3 [c0] di := Fit.fld (T := 3) (o := 0) (z := 1) Try.underlying28 h 0 rfl rfl rfl (by kernel_rfl)
  obtain ⟨x0, e0, b0, t0⟩ := f_0.i64 Try.underlying3
  obtain rfl : c0 = .int .i64 x0 := (List.cons.inj e0).1
  obtain ⟨df_1, f_1⟩ : ∃ di, Fit enc Try.prog W 24 [c1, c2, c3, c4] di := Fit.fld (T := 24) (o := 1) (z := 4) Try.underlying28 h 1 rfl rfl rfl (by kernel_rfl)
  obtain ⟨df_1_0, f_1_0⟩ : ∃ di, Fit enc Try.prog W 3 [c1] di := Fit.fld (T := 3) (o := 0) (z := 1) Try.underlying24 f_1 0 rfl rfl rfl (by kernel_rfl)
  obtain ⟨x1, e1, b1, t1⟩ := f_1_0.i64 Try.underlying3
  obtain rfl : c1 = .int .i64 x1 := (List.cons.inj e1).1
  obtain ⟨df_1_1, f_1_1⟩ : ∃ di, Fit enc Try.prog W 3 [c2] di := Fit.fld (T := 3) (o := 1) (z := 1) Try.underlying24 f_1 1 rfl rfl rfl (by kernel_rfl)
  obtain ⟨x2, e2, b2, t2⟩ := f_1_1.i64 Try.underlying3
  obtain rfl : c2 = .int .i64 x2 := (List.cons.inj e2).1
  obtain ⟨df_1_2, f_1_2⟩ : ∃ di, Fit enc Try.prog W 3 [c3] di := Fit.fld (T := 3) (o := 2) (z := 1) Try.underlying24 f_1 2 rfl rfl rfl (by kernel_rfl)
  obtain ⟨x3, e3, b3, t3⟩ := f_1_2.i64 Try.underlying3
  obtain rfl : c3 = .int .i64 x3 := (List.cons.inj e3).1
  obtain ⟨df_1_3, f_1_3⟩ : ∃ di, Fit enc Try.prog W 22 [c4] di := Fit.fld (T := 22) (o := 3) (z := 1) Try.underlying24 f_1 3 rfl rfl rfl (by kernel_rfl)
  obtain ⟨A4, n4, k4, x4, e4, p4, q4, r4⟩ := f_1_3.bytes Try.underlying22 Try.underlying5 (by kernel_rfl) (by kernel_rfl)
  obtain rfl : c4 = .slice A4 n4 k4 := (List.cons.inj e4).1
  obtain ⟨df_2, f_2⟩ : ∃ di, Fit enc Try.prog W 3 [c5] di := Fit.fld (T := 3) (o := 5) (z := 1) Try.underlying28 h 2 rfl rfl rfl (by kernel_rfl)
  obtain ⟨x5, e5, b5, t5⟩ := f_2.i64 Try.underlying3
  obtain rfl : c5 = .int .i64 x5 := (List.cons.inj e5).1
  obtain ⟨df_3, f_3⟩ : ∃ di, Fit enc Try.prog W 3 [c6] di := Fit.fld (T := 3) (o := 6) (z := 1) Try.underlying28 h 3 rfl rfl rfl (by kernel_rfl)
  obtain ⟨x6, e6, b6, t6⟩ := f_3.i64 Try.underlying3
  obtain rfl : c6 = .int .i64 x6 := (List.cons.inj e6).1
  obtain ⟨df_4, f_4⟩ : ∃ di, Fit enc Try.prog W 26 [c7, c8] di := Fit.fld (T := 26) (o := 7) (z := 2) Try.underlying28 h 4 rfl rfl rfl (by kernel_rfl)
  obtain ⟨df_4_0, f_4_0⟩ : ∃ di, Fit enc Try.prog W 3 [c7] di := Fit.fld (T := 3) (o := 0) (z := 1) Try.underlying26 f_4 0 rfl rfl rfl (by kernel_rfl)
  obtain ⟨x7, e7, b7, t7⟩ := f_4_0.i64 Try.underlying3
  obtain rfl : c7 = .int .i64 x7 := (List.cons.inj e7).1
  obtain ⟨df_4_1, f_4_1⟩ : ∃ di, Fit enc Try.prog W 3 [c8] di := Fit.fld (T := 3) (o := 1) (z := 1) Try.underlying26 f_4 1 rfl rfl rfl (by kernel_rfl)
  obtain ⟨x8, e8, b8, t8⟩ := f_4_1.i64 Try.underlying3
  obtain rfl : c8 = .int .i64 x8 := (List.cons.inj e8).1
  exact ⟨x0, x1, x2, x3, A4, n4, k4, x4, x5, x6, x7, x8, rfl, b0, t0, b1, t1, b2, t2, b3, t3, p4, q4, r4, b5, t5, b6, t6, b7, t7, b8, t8⟩
end Go.Proofs.Ytffcepaegcllmaa
