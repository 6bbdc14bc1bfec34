/-
  DetectSilent, with its argument opened.
-/
import Derived.Test.YtfjpmoigpnmeoaaDSilent
namespace Go.Proofs.Ytfjpmoigpnmeoaa
open Go.ChangeShapes Go.WideShapes Go.ChangeAt Go.RowKit
theorem Fit.Silence {H : Type} {enc : TypeId × Value → H} {W : World} {cs : List Value} {d : DataW H} (h : Fit enc Try.prog W 56 cs d) :
    ∃ (x0 : Int) (x1 : Int) (x2 : Int) (x3 : Int) (x4 : Int) (x5 : Int) (A6 : Option Addr) (n6 k6 : Nat) (x6 : List (List Value)) (x7 : Int) (x8 : Int) (A9 : Option Addr) (n9 k9 : Nat) (x9 : List Int), cs = [.int .i64 x0, .int .i64 x1, .int .i64 x2, .int .i64 x3, .int .i64 x4, .int .i64 x5, .slice A6 n6 k6, .int .i64 x7, .int .i64 x8, .slice A9 n9 k9] ∧ -9223372036854775808 ≤ x0 ∧ x0 ≤ 9223372036854775807 ∧ -9223372036854775808 ≤ x1 ∧ x1 ≤ 9223372036854775807 ∧ -9223372036854775808 ≤ x2 ∧ x2 ≤ 9223372036854775807 ∧ -9223372036854775808 ≤ x3 ∧ x3 ≤ 9223372036854775807 ∧ -9223372036854775808 ≤ x4 ∧ x4 ≤ 9223372036854775807 ∧ -9223372036854775808 ≤ x5 ∧ x5 ≤ 9223372036854775807 ∧ n6 ≤ k6 ∧ k6 * 56 ≤ 140737488351232 ∧ x6.length = n6 ∧ Rd W W.heap.size 5 A6 n6 x6.flatten ∧ (∀ y ∈ x6, y.length = 5 ∧ ∃ d, Fit enc Try.prog W 61 y d) ∧ -9223372036854775808 ≤ x7 ∧ x7 ≤ 9223372036854775807 ∧ -9223372036854775808 ≤ x8 ∧ x8 ≤ 9223372036854775807 ∧ n9 ≤ k9 ∧ k9 * 8 ≤ 140737488351232 ∧ RdI W W.heap.size A9 n9 x9 ∧ (∀ x ∈ x9, -9223372036854775808 ≤ x ∧ x ≤ 9223372036854775807) := by
  have hl := Fit.structLen Try.underlying56 h (by kernel_rfl : Try.prog.cellsOf 56 = 10)
  match cs, hl, h with
  | [c0, c1, c2, c3, c4, c5, c6, c7, c8, c9], _, h =>
  obtain ⟨df_0, f_0⟩ : ∃ di, Fit enc Try.prog W 27 [c0, c1, c2, c3, c4, c5, c6] di := Fit.fld (T := 27) (o := 0) (z := 7) Try.underlying56 h 0 rfl rfl rfl (by kernel_rfl)
  obtain ⟨df_0_0, f_0_0⟩ : ∃ di, Fit enc Try.prog W 3 [c0] di := Fit.fld (T := 3) (o := 0) (z := 1) Try.underlying27 f_0 0 rfl rfl rfl (by kernel_rfl)
  obtain ⟨x0, e0, b0, t0⟩ := f_0_0.i64 Try.underlying3
  obtain rfl : c0 = .int .i64 x0 := (List.cons.inj e0).1
  obtain ⟨df_0_1, f_0_1⟩ : ∃ di, Fit enc Try.prog W 3 [c1] di := Fit.fld (T := 3) (o := 1) (z := 1) Try.underlying27 f_0 1 rfl rfl rfl (by kernel_rfl)
  obtain ⟨x1, e1, b1, t1⟩ := f_0_1.i64 Try.underlying3
  obtain rfl : c1 = .int .i64 x1 := (List.cons.inj e1).1
  obtain ⟨df_0_2, f_0_2⟩ : ∃ di, Fit enc Try.prog W 3 [c2] di := Fit.fld (T := 3) (o := 2) (z := 1) Try.underlying27 f_0 2 rfl rfl rfl (by kernel_rfl)
  obtain ⟨x2, e2, b2, t2⟩ := f_0_2.i64 Try.underlying3
  obtain rfl : c2 = .int .i64 x2 := (List.cons.inj e2).1
  obtain ⟨df_0_3, f_0_3⟩ : ∃ di, Fit enc Try.prog W 3 [c3] di := Fit.fld (T := 3) (o := 3) (z := 1) Try.underlying27 f_0 3 rfl rfl rfl (by kernel_rfl)
  obtain ⟨x3, e3, b3, t3⟩ := f_0_3.i64 Try.underlying3
  obtain rfl : c3 = .int .i64 x3 := (List.cons.inj e3).1
  obtain ⟨df_0_4, f_0_4⟩ : ∃ di, Fit enc Try.prog W 3 [c4] di := Fit.fld (T := 3) (o := 4) (z := 1) Try.underlying27 f_0 4 rfl rfl rfl (by kernel_rfl)
  obtain ⟨x4, e4, b4, t4⟩ := f_0_4.i64 Try.underlying3
  obtain rfl : c4 = .int .i64 x4 := (List.cons.inj e4).1
  obtain ⟨df_0_5, f_0_5⟩ : ∃ di, Fit enc Try.prog W 3 [c5] di := Fit.fld (T := 3) (o := 5) (z := 1) Try.underlying27 f_0 5 rfl rfl rfl (by kernel_rfl)
  obtain ⟨x5, e5, b5, t5⟩ := f_0_5.i64 Try.underlying3
  obtain rfl : c5 = .int .i64 x5 := (List.cons.inj e5).1
  obtain ⟨df_0_6, f_0_6⟩ : ∃ di, Fit enc Try.prog W 25 [c6] di := Fit.fld (T := 25) (o := 6) (z := 1) Try.underlying27 f_0 6 rfl rfl rfl (by kernel_rfl)
  obtain ⟨A6, n6, k6, x6, e6, p6, q6, l6, r6, s6⟩ := f_0_6.rows Try.underlying25 (by kernel_rfl : Try.prog.cellsOf 61 = 5) (by kernel_rfl : Try.prog.bytesOf 61 = 56) (by omega)
  obtain rfl : c6 = .slice A6 n6 k6 := (List.cons.inj e6).1
  obtain ⟨df_1, f_1⟩ : ∃ di, Fit enc Try.prog W 3 [c7] di := Fit.fld (T := 3) (o := 7) (z := 1) Try.underlying56 h 1 rfl rfl rfl (by kernel_rfl)
  obtain ⟨x7, e7, b7, t7⟩ := f_1.i64 Try.underlying3
  obtain rfl : c7 = .int .i64 x7 := (List.cons.inj e7).1
  obtain ⟨df_2, f_2⟩ : ∃ di, Fit enc Try.prog W 3 [c8] di := Fit.fld (T := 3) (o := 8) (z := 1) Try.underlying56 h 2 rfl rfl rfl (by kernel_rfl)
  obtain ⟨x8, e8, b8, t8⟩ := f_2.i64 Try.underlying3
  obtain rfl : c8 = .int .i64 x8 := (List.cons.inj e8).1
  obtain ⟨df_3, f_3⟩ : ∃ di, Fit enc Try.prog W 22 [c9] di := Fit.fld (T := 22) (o := 9) (z := 1) Try.underlying56 h 3 rfl rfl rfl (by kernel_rfl)
  obtain ⟨A9, n9, k9, x9, e9, p9, q9, r9, s9⟩ := f_3.ints Try.underlying22 Try.underlying3 (by kernel_rfl) (by kernel_rfl)
  obtain rfl : c9 = .slice A9 n9 k9 := (List.cons.inj e9).1
  exact ⟨x0, x1, x2, x3, x4, x5, A6, n6, k6, x6, x7, x8, A9, n9, k9, x9, rfl, b0, t0, b1, t1, b2, t2, b3, t3, b4, t4, b5, t5, p6, q6, l6, r6, s6, b7, t7, b8, t8, p9, q9, r9, s9⟩
theorem DetectSilent_walk {H : Type} {enc : TypeId × Value → H} (x0 x1 x2 x3 x4 x5 : Int) (A6 : Option Addr) (n6 k6 : Nat) (x6 : List (List Value)) (x7 x8 : Int) (A9 : Option Addr) (n9 k9 : Nat) (x9 : List Int) (w : World) (b0 : -9223372036854775808 ≤ x0) (t0 : x0 ≤ 9223372036854775807) (_b1 : -9223372036854775808 ≤ x1) (_t1 : x1 ≤ 9223372036854775807) (_b2 : -9223372036854775808 ≤ x2) (_t2 : x2 ≤ 9223372036854775807) (_b3 : -9223372036854775808 ≤ x3) (_t3 : x3 ≤ 9223372036854775807) (_b4 : -9223372036854775808 ≤ x4) (_t4 : x4 ≤ 9223372036854775807) (_b5 : -9223372036854775808 ≤ x5) (_t5 : x5 ≤ 9223372036854775807) (p6 : n6 ≤ k6) (q6 : k6 * 56 ≤ 140737488351232) (l6 : x6.length = n6) (r6 : Rd w w.heap.size 5 A6 n6 x6.flatten) (s6 : ∀ y ∈ x6, y.length = 5 ∧ ∃ d, Fit enc Try.prog w 61 y d)
    (b7 : -9223372036854775808 ≤ x7) (t7 : x7 ≤ 9223372036854775807) (b8 : -9223372036854775808 ≤ x8) (t8 : x8 ≤ 9223372036854775807) (p9 : n9 ≤ k9) (q9 : k9 * 8 ≤ 140737488351232) (r9 : RdI w w.heap.size A9 n9 x9) (s9 : ∀ x ∈ x9, -9223372036854775808 ≤ x ∧ x ≤ 9223372036854775807) :
    Calls Try.prog 5 #[.agg #[.int .i64 x0, .int .i64 x1, .int .i64 x2, .int .i64 x3, .int .i64 x4, .int .i64 x5, .slice A6 n6 k6, .int .i64 x7, .int .i64 x8, .slice A9 n9 k9]] w (AsksOk w) :=
  DetectSilent_core x0 x1 x2 x3 x4 x5 A6 n6 k6 x7 x8 A9 n9 k9 x9 w b0 t0 p6 q6 (Lib.hid (ops_open l6 r6 s6)) b7 t7 b8 t8 p9 q9 r9 s9
end Go.Proofs.Ytfjpmoigpnmeoaa
