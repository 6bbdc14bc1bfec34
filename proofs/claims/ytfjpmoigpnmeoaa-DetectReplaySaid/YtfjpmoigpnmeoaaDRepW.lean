/-
  DetectReplay, with its argument opened.
-/
import Derived.Test.YtfjpmoigpnmeoaaDReplay
namespace Go.Proofs.Ytfjpmoigpnmeoaa
open Go.ChangeShapes Go.WideShapes Go.ChangeAt Go.RowKit
theorem DetectReplay_walk {H : Type} {enc : TypeId × Value → H} (x0 x1 x2 x3 x4 x5 : Int) (A6 : Option Addr) (n6 k6 : Nat) (x6 : List (List Value)) (w : World) (b0 : -9223372036854775808 ≤ x0) (t0 : x0 ≤ 9223372036854775807) (_b1 : -9223372036854775808 ≤ x1) (_t1 : x1 ≤ 9223372036854775807) (_b2 : -9223372036854775808 ≤ x2) (_t2 : x2 ≤ 9223372036854775807) (_b3 : -9223372036854775808 ≤ x3) (_t3 : x3 ≤ 9223372036854775807) (_b4 : -9223372036854775808 ≤ x4) (_t4 : x4 ≤ 9223372036854775807) (_b5 : -9223372036854775808 ≤ x5) (_t5 : x5 ≤ 9223372036854775807) (p6 : n6 ≤ k6) (q6 : k6 * 56 ≤ 140737488351232) (l6 : x6.length = n6) (r6 : Rd w w.heap.size 5 A6 n6 x6.flatten) (s6 : ∀ y ∈ x6, y.length = 5 ∧ ∃ d, Fit enc Try.prog w 61 y d) :
    Calls Try.prog 6 #[.agg #[.int .i64 x0, .int .i64 x1, .int .i64 x2, .int .i64 x3, .int .i64 x4, .int .i64 x5, .slice A6 n6 k6]] w (AsksOk w) :=
  DetectReplay_core x0 x1 x2 x3 x4 x5 A6 n6 k6 w b0 t0 p6 q6 (Lib.hid (ops_open l6 r6 s6))
end Go.Proofs.Ytfjpmoigpnmeoaa
