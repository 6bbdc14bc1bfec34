/-
  DetectSettles, with its argument opened.
-/
import Derived.Test.YtfjpmoigpnmeoaaDSettles
namespace Go.Proofs.Ytfjpmoigpnmeoaa
open Go.ChangeShapes Go.WideShapes Go.ChangeAt Go.RowKit
theorem Fit.Gaps {H : Type} {enc : TypeId × Value → H} {W : World} {cs : List Value} {d : DataW H} (h : Fit enc Try.prog W 24 cs d) :
    ∃ (x0 : Int) (x1 : Int) (x2 : Int) (x3 : Int) (x4 : Int) (x5 : Int) (x6 : Int) (x7 : Int) (A8 : Option Addr) (n8 k8 : Nat) (x8 : List Int), cs = [.int .i64 x0, .int .i64 x1, .int .i64 x2, .int .i64 x3, .int .i64 x4, .int .i64 x5, .int .i64 x6, .int .i64 x7, .slice A8 n8 k8] ∧ -9223372036854775808 ≤ x0 ∧ x0 ≤ 9223372036854775807 ∧ -9223372036854775808 ≤ x1 ∧ x1 ≤ 9223372036854775807 ∧ -9223372036854775808 ≤ x2 ∧ x2 ≤ 9223372036854775807 ∧ -9223372036854775808 ≤ x3 ∧ x3 ≤ 9223372036854775807 ∧ -9223372036854775808 ≤ x4 ∧ x4 ≤ 9223372036854775807 ∧ -9223372036854775808 ≤ x5 ∧ x5 ≤ 9223372036854775807 ∧ -9223372036854775808 ≤ x6 ∧ x6 ≤ 9223372036854775807 ∧ -9223372036854775808 ≤ x7 ∧ x7 ≤ 9223372036854775807 ∧ n8 ≤ k8 ∧ k8 * 8 ≤ 140737488351232 ∧ RdI W W.heap.size A8 n8 x8 ∧ (∀ x ∈ x8, -9223372036854775808 ≤ x ∧ x ≤ 9223372036854775807) := by
  have hl := Fit.structLen Try.underlying24 h (by kernel_rfl : Try.prog.cellsOf 24 = 9)
  match cs, hl, h with
  | [c0, c1, c2, c3, c4, c5, c6, c7, c8], _, h =>
  obtain ⟨df_0, f_0⟩ : ∃ di, Fit enc Try.prog W 3 [c0] di := Fit.fld (T := 3) (o := 0) (z := 1) Try.underlying24 h 0 rfl rfl rfl (by kernel_rfl)
  obtain ⟨x0, e0, b0, t0⟩ := f_0.i64 Try.underlying3
  obtain rfl : c0 = .int .i64 x0 := (List.cons.inj e0).1
  obtain ⟨df_1, f_1⟩ : ∃ di, Fit enc Try.prog W 3 [c1] di := Fit.fld (T := 3) (o := 1) (z := 1) Try.underlying24 h 1 rfl rfl rfl (by kernel_rfl)
  obtain ⟨x1, e1, b1, t1⟩ := f_1.i64 Try.underlying3
  obtain rfl : c1 = .int .i64 x1 := (List.cons.inj e1).1
  obtain ⟨df_2, f_2⟩ : ∃ di, Fit enc Try.prog W 3 [c2] di := Fit.fld (T := 3) (o := 2) (z := 1) Try.underlying24 h 2 rfl rfl rfl (by kernel_rfl)
  obtain ⟨x2, e2, b2, t2⟩ := f_2.i64 Try.underlying3
  obtain rfl : c2 = .int .i64 x2 := (List.cons.inj e2).1
  obtain ⟨df_3, f_3⟩ : ∃ di, Fit enc Try.prog W 3 [c3] di := Fit.fld (T := 3) (o := 3) (z := 1) Try.underlying24 h 3 rfl rfl rfl (by kernel_rfl)
  obtain ⟨x3, e3, b3, t3⟩ := f_3.i64 Try.underlying3
  obtain rfl : c3 = .int .i64 x3 := (List.cons.inj e3).1
  obtain ⟨df_4, f_4⟩ : ∃ di, Fit enc Try.prog W 3 [c4] di := Fit.fld (T := 3) (o := 4) (z := 1) Try.underlying24 h 4 rfl rfl rfl (by kernel_rfl)
  obtain ⟨x4, e4, b4, t4⟩ := f_4.i64 Try.underlying3
  obtain rfl : c4 = .int .i64 x4 := (List.cons.inj e4).1
  obtain ⟨df_5, f_5⟩ : ∃ di, Fit enc Try.prog W 3 [c5] di := Fit.fld (T := 3) (o := 5) (z := 1) Try.underlying24 h 5 rfl rfl rfl (by kernel_rfl)
  obtain ⟨x5, e5, b5, t5⟩ := f_5.i64 Try.underlying3
  obtain rfl : c5 = .int .i64 x5 := (List.cons.inj e5).1
  obtain ⟨df_6, f_6⟩ : ∃ di, Fit enc Try.prog W 3 [c6] di := Fit.fld (T := 3) (o := 6) (z := 1) Try.underlying24 h 6 rfl rfl rfl (by kernel_rfl)
  obtain ⟨x6, e6, b6, t6⟩ := f_6.i64 Try.underlying3
  obtain rfl : c6 = .int .i64 x6 := (List.cons.inj e6).1
  obtain ⟨df_7, f_7⟩ : ∃ di, Fit enc Try.prog W 3 [c7] di := Fit.fld (T := 3) (o := 7) (z := 1) Try.underlying24 h 7 rfl rfl rfl (by kernel_rfl)
  obtain ⟨x7, e7, b7, t7⟩ := f_7.i64 Try.underlying3
  obtain rfl : c7 = .int .i64 x7 := (List.cons.inj e7).1
  obtain ⟨df_8, f_8⟩ : ∃ di, Fit enc Try.prog W 22 [c8] di := Fit.fld (T := 22) (o := 8) (z := 1) Try.underlying24 h 8 rfl rfl rfl (by kernel_rfl)
  obtain ⟨A8, n8, k8, x8, e8, p8, q8, r8, s8⟩ := f_8.ints Try.underlying22 Try.underlying3 (by kernel_rfl) (by kernel_rfl)
  obtain rfl : c8 = .slice A8 n8 k8 := (List.cons.inj e8).1
  exact ⟨x0, x1, x2, x3, x4, x5, x6, x7, A8, n8, k8, x8, rfl, b0, t0, b1, t1, b2, t2, b3, t3, b4, t4, b5, t5, b6, t6, b7, t7, p8, q8, r8, s8⟩
theorem DetectSettles_walk (x0 x1 x2 x3 x4 x5 x6 x7 : Int) (A8 : Option Addr) (n8 k8 : Nat) (x8 : List Int) (w : World) (b0 : -9223372036854775808 ≤ x0) (t0 : x0 ≤ 9223372036854775807) (_b1 : -9223372036854775808 ≤ x1) (_t1 : x1 ≤ 9223372036854775807) (_b2 : -9223372036854775808 ≤ x2) (_t2 : x2 ≤ 9223372036854775807) (_b3 : -9223372036854775808 ≤ x3) (_t3 : x3 ≤ 9223372036854775807) (_b4 : -9223372036854775808 ≤ x4) (_t4 : x4 ≤ 9223372036854775807) (_b5 : -9223372036854775808 ≤ x5) (_t5 : x5 ≤ 9223372036854775807) (b6 : -9223372036854775808 ≤ x6) (t6 : x6 ≤ 9223372036854775807) (b7 : -9223372036854775808 ≤ x7) (t7 : x7 ≤ 9223372036854775807) (p8 : n8 ≤ k8) (q8 : k8 * 8 ≤ 140737488351232) (r8 : RdI w w.heap.size A8 n8 x8) (s8 : ∀ x ∈ x8, -9223372036854775808 ≤ x ∧ x ≤ 9223372036854775807) :
    Calls Try.prog 3 #[.agg #[.int .i64 x0, .int .i64 x1, .int .i64 x2, .int .i64 x3, .int .i64 x4, .int .i64 x5, .int .i64 x6, .int .i64 x7, .slice A8 n8 k8]] w (AsksOk w) :=
  DetectSettles_core x0 x1 x2 x3 x4 x5 x6 x7 A8 n8 k8 x8 w b0 t0 b6 t6 b7 t7 p8 q8 r8 s8
end Go.Proofs.Ytfjpmoigpnmeoaa
