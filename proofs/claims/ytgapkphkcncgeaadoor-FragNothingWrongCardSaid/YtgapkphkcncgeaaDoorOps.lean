/-
  A list of ops that came in, opened.
-/
import Derived.Test.YtgapkphkcncgeaaDoorFJoins
import Derived.Test.YtgapkphkcncgeaaDoorStruct
namespace Go.Proofs.YtgapkphkcncgeaaDoor
open Go.ChangeShapes Go.WideShapes Go.ChangeAt Go.RowKit
theorem Fit.Op {H : Type} {enc : TypeId × Value → H} {W : World} {cs : List Value} {d : DataW H} (h : Fit enc Tryd.prog W 41 cs d) :
    ∃ (x0 : Int) (x1 : Int) (A2 : Option Addr) (n2 k2 : Nat) (x2 : List UInt8), cs = [.int .i64 x0, .int .i64 x1, .slice A2 n2 k2] ∧ -9223372036854775808 ≤ x0 ∧ x0 ≤ 9223372036854775807 ∧ -9223372036854775808 ≤ x1 ∧ x1 ≤ 9223372036854775807 ∧ n2 ≤ k2 ∧ k2 ≤ 140737488351232 ∧ RdB W W.heap.size A2 n2 x2 := by
  have hl := Fit.structLen Tryd.underlying41 h (by kernel_rfl : Tryd.prog.cellsOf 41 = 3)
  match cs, hl, h with
  | [c0, c1, c2], _, h =>
  obtain ⟨df_0, f_0⟩ : ∃ di, Fit enc Tryd.prog W 3 [c0] di := Fit.fld (T := 3) (o := 0) (z := 1) Tryd.underlying41 h 0 rfl rfl rfl (by kernel_rfl)
  obtain ⟨x0, e0, b0, t0⟩ := f_0.i64 Tryd.underlying3
  obtain rfl : c0 = .int .i64 x0 := (List.cons.inj e0).1
  obtain ⟨df_1, f_1⟩ : ∃ di, Fit enc Tryd.prog W 3 [c1] di := Fit.fld (T := 3) (o := 1) (z := 1) Tryd.underlying41 h 1 rfl rfl rfl (by kernel_rfl)
  obtain ⟨x1, e1, b1, t1⟩ := f_1.i64 Tryd.underlying3
  obtain rfl : c1 = .int .i64 x1 := (List.cons.inj e1).1
  obtain ⟨df_2, f_2⟩ : ∃ di, Fit enc Tryd.prog W 22 [c2] di := Fit.fld (T := 22) (o := 2) (z := 1) Tryd.underlying41 h 2 rfl rfl rfl (by kernel_rfl)
  obtain ⟨A2, n2, k2, x2, e2, p2, q2, r2⟩ := f_2.bytes Tryd.underlying22 Tryd.underlying5 (by kernel_rfl) (by kernel_rfl)
  obtain rfl : c2 = .slice A2 n2 k2 := (List.cons.inj e2).1
  exact ⟨x0, x1, A2, n2, k2, x2, rfl, b0, t0, b1, t1, p2, q2, r2⟩
theorem ops_open {H : Type} {enc : TypeId × Value → H} {W : World} {Av : Option Addr} {n : Nat} {es : List (List Value)} (hl : es.length = n) (hr : Rd W W.heap.size 3 Av n es.flatten) (hes : ∀ y ∈ es, y.length = 3 ∧ ∃ d, Fit enc Tryd.prog W 41 y d) : Ops W W.heap.size Av n := fun hn => by
  obtain ⟨b, off, e, hlt, hc⟩ := hr.at_ hn
  refine ⟨b, off, e, hlt, fun k hk => ?_⟩
  obtain ⟨y, hy⟩ : ∃ y, es[k]? = some y := ⟨_, List.getElem?_eq_getElem (by omega)⟩
  obtain ⟨h3, d, hd⟩ := hes y (List.mem_of_getElem? hy)
  obtain ⟨x0, x1, A2, n2, k2, x2, hcs, b0, t0, b1, t1, p2, q2, r2⟩ := Fit.Op hd
  have hall := flat_at (z := 3) (es := es) (fun x hx => (hes x hx).1) k
  refine ⟨x0, x1, A2, n2, k2, x2, ?_, ?_, ?_, p2, q2, r2, ⟨b0, t0⟩, ⟨b1, t1⟩⟩
  · have := hc (k * 3 + 0) _ ((hall 0 (by omega)).trans (by rw [hy, hcs]; rfl))
    exact this
  · have := hc (k * 3 + 1) _ ((hall 1 (by omega)).trans (by rw [hy, hcs]; rfl))
    rw [← Nat.add_assoc] at this
    exact this
  · have := hc (k * 3 + 2) _ ((hall 2 (by omega)).trans (by rw [hy, hcs]; rfl))
    rw [← Nat.add_assoc] at this
    exact this
end Go.Proofs.YtgapkphkcncgeaaDoor
