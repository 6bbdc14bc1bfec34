/-
  DetectMutual, with its argument opened.
-/
import Derived.Test.YtfjpmoigpnmeoaaDMutK
namespace Go.Proofs.Ytfjpmoigpnmeoaa
open Go.ChangeShapes Go.WideShapes Go.ChangeAt Go.RowKit
theorem DetectMutual_walk {H : Type} {enc : TypeId × Value → H} (x0 x1 x2 x3 x4 : Int) (A5 : Option Addr) (n5 k5 : Nat) (x5 : List (List Value)) (w : World) (_b0 : -9223372036854775808 ≤ x0) (_t0 : x0 ≤ 9223372036854775807) (_b1 : -9223372036854775808 ≤ x1) (_t1 : x1 ≤ 9223372036854775807) (_b2 : -9223372036854775808 ≤ x2) (_t2 : x2 ≤ 9223372036854775807) (_b3 : -9223372036854775808 ≤ x3) (_t3 : x3 ≤ 9223372036854775807) (_b4 : -9223372036854775808 ≤ x4) (_t4 : x4 ≤ 9223372036854775807) (p5 : n5 ≤ k5) (q5 : k5 * 24 ≤ 140737488351232) (l5 : x5.length = n5) (r5 : Rd w w.heap.size 3 A5 n5 x5.flatten) (s5 : ∀ y ∈ x5, y.length = 3 ∧ ∃ d, Fit enc Try.prog w 50 y d) :
    Calls Try.prog 4 #[.agg #[.int .i64 x0, .int .i64 x1, .int .i64 x2, .int .i64 x3, .int .i64 x4, .slice A5 n5 k5]] w fun e w' => e = .returned (.bool true) ∧ Below w.heap.size w w' :=
  DetectMutual_core x0 x1 x2 x3 x4 A5 n5 k5 w p5 q5 (Lib.hid (says_open l5 r5 s5))
end Go.Proofs.Ytfjpmoigpnmeoaa
