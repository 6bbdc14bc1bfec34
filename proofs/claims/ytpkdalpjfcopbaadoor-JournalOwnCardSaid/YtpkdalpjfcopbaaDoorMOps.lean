/-
  The journal laws' list of ops, opened.
-/
import Derived.Test.YtpkdalpjfcopbaaDoorKOut
import Derived.Test.YtpkdalpjfcopbaaDoorStruct
namespace Go.Proofs.YtpkdalpjfcopbaaDoor
open Go.ChangeShapes Go.WideShapes Go.ChangeAt Go.RowKit
/-- One op of a list. -/
structure OpAt (w : World) (B b off k : Nat) (kd on kn ln rk : Int) (A : Option Addr) (n cap : Nat) (body : List UInt8) : Prop where
  c0 : w.cell? ⟨b, off + k * 6, none⟩ = some (.int .i64 kd)
  c1 : w.cell? ⟨b, off + k * 6 + 1, none⟩ = some (.int .i64 on)
  c2 : w.cell? ⟨b, off + k * 6 + 2, none⟩ = some (.int .i64 kn)
  c3 : w.cell? ⟨b, off + k * 6 + 3, none⟩ = some (.int .i64 ln)
  c4 : w.cell? ⟨b, off + k * 6 + 4, none⟩ = some (.int .i64 rk)
  c5 : w.cell? ⟨b, off + k * 6 + 5, none⟩ = some (.slice A n cap)
  rd : RdB w B A n body
  le : n ≤ cap
  cap : cap ≤ 140737488351232
  bk : -9223372036854775808 ≤ kn ∧ kn ≤ 9223372036854775807
  bl : -9223372036854775808 ≤ ln ∧ ln ≤ 9223372036854775807
  br : -9223372036854775808 ≤ rk ∧ rk ≤ 9223372036854775807
  bo : -9223372036854775808 ≤ on ∧ on ≤ 9223372036854775807
def Ops (w : World) (B : Nat) (Av : Option Addr) (n : Nat) : Prop := 0 < n → ∃ b off, Av = some ⟨b, off, none⟩ ∧ b < B ∧ ∀ k, k < n → ∃ kd on kn ln rk A m cap body, OpAt w B b off k kd on kn ln rk A m cap body
theorem Ops.below {w w' : World} {B n : Nat} {Av : Option Addr} (h : Ops w B Av n) (hb : Below B w w') : Ops w' B Av n := fun hn => by
  obtain ⟨b, off, e, hlt, hall⟩ := h hn
  refine ⟨b, off, e, hlt, fun k hk => ?_⟩
  obtain ⟨kd, on, kn, ln, rk, A, m, cap, body, ho⟩ := hall k hk
  exact ⟨kd, on, kn, ln, rk, A, m, cap, body, (hb.cell (p := ⟨b, off + k * 6, none⟩) hlt).trans ho.c0, (hb.cell (p := ⟨b, off + k * 6 + 1, none⟩) hlt).trans ho.c1, (hb.cell (p := ⟨b, off + k * 6 + 2, none⟩) hlt).trans ho.c2, (hb.cell (p := ⟨b, off + k * 6 + 3, none⟩) hlt).trans ho.c3,
    (hb.cell (p := ⟨b, off + k * 6 + 4, none⟩) hlt).trans ho.c4, (hb.cell (p := ⟨b, off + k * 6 + 5, none⟩) hlt).trans ho.c5, ho.rd.below hb, ho.le, ho.cap, ho.bk, ho.bl, ho.br, ho.bo⟩
theorem Fit.Op {H : Type} {enc : TypeId × Value → H} {W : World} {cs : List Value} {d : DataW H} (h : Fit enc Tryd.prog W 57 cs d) :
    ∃ (x0 : Int) (x1 : Int) (x2 : Int) (x3 : Int) (x4 : Int) (A5 : Option Addr) (n5 k5 : Nat) (x5 : List UInt8), cs = [.int .i64 x0, .int .i64 x1, .int .i64 x2, .int .i64 x3, .int .i64 x4, .slice A5 n5 k5] ∧ -9223372036854775808 ≤ x0 ∧ x0 ≤ 9223372036854775807 ∧ -9223372036854775808 ≤ x1 ∧ x1 ≤ 9223372036854775807 ∧ -9223372036854775808 ≤ x2 ∧ x2 ≤ 9223372036854775807 ∧ -9223372036854775808 ≤ x3 ∧ x3 ≤ 9223372036854775807 ∧ -9223372036854775808 ≤ x4 ∧ x4 ≤ 9223372036854775807 ∧ n5 ≤ k5 ∧ k5 ≤ 140737488351232 ∧ RdB W W.heap.size A5 n5 x5 := by
  have hl := Fit.structLen Tryd.underlying57 h (by kernel_rfl : Tryd.prog.cellsOf 57 = 6)
  match cs, hl, h with
  | [c0, c1, c2, c3, c4, c5], _, h =>
  obtain ⟨df_0, f_0⟩ : ∃ di, Fit enc Tryd.prog W 3 [c0] di := Fit.fld (T := 3) (o := 0) (z := 1) Tryd.underlying57 h 0 rfl rfl rfl (by kernel_rfl)
  obtain ⟨x0, e0, b0, t0⟩ := f_0.i64 Tryd.underlying3
  obtain rfl : c0 = .int .i64 x0 := (List.cons.inj e0).1
  obtain ⟨df_1, f_1⟩ : ∃ di, Fit enc Tryd.prog W 3 [c1] di := Fit.fld (T := 3) (o := 1) (z := 1) Tryd.underlying57 h 1 rfl rfl rfl (by kernel_rfl)
  obtain ⟨x1, e1, b1, t1⟩ := f_1.i64 Tryd.underlying3
  obtain rfl : c1 = .int .i64 x1 := (List.cons.inj e1).1
  obtain ⟨df_2, f_2⟩ : ∃ di, Fit enc Tryd.prog W 3 [c2] di := Fit.fld (T := 3) (o := 2) (z := 1) Tryd.underlying57 h 2 rfl rfl rfl (by kernel_rfl)
  obtain ⟨x2, e2, b2, t2⟩ := f_2.i64 Tryd.underlying3
  obtain rfl : c2 = .int .i64 x2 := (List.cons.inj e2).1
  obtain ⟨df_3, f_3⟩ : ∃ di, Fit enc Tryd.prog W 3 [c3] di := Fit.fld (T := 3) (o := 3) (z := 1) Tryd.underlying57 h 3 rfl rfl rfl (by kernel_rfl)
  obtain ⟨x3, e3, b3, t3⟩ := f_3.i64 Tryd.underlying3
  obtain rfl : c3 = .int .i64 x3 := (List.cons.inj e3).1
  obtain ⟨df_4, f_4⟩ : ∃ di, Fit enc Tryd.prog W 34 [c4, c5] di := Fit.fld (T := 34) (o := 4) (z := 2) Tryd.underlying57 h 4 rfl rfl rfl (by kernel_rfl)
  obtain ⟨df_4_0, f_4_0⟩ : ∃ di, Fit enc Tryd.prog W 3 [c4] di := Fit.fld (T := 3) (o := 0) (z := 1) Tryd.underlying34 f_4 0 rfl rfl rfl (by kernel_rfl)
  obtain ⟨x4, e4, b4, t4⟩ := f_4_0.i64 Tryd.underlying3
  obtain rfl : c4 = .int .i64 x4 := (List.cons.inj e4).1
  obtain ⟨df_4_1, f_4_1⟩ : ∃ di, Fit enc Tryd.prog W 22 [c5] di := Fit.fld (T := 22) (o := 1) (z := 1) Tryd.underlying34 f_4 1 rfl rfl rfl (by kernel_rfl)
  obtain ⟨A5, n5, k5, x5, e5, p5, q5, r5⟩ := f_4_1.bytes Tryd.underlying22 Tryd.underlying5 (by kernel_rfl) (by kernel_rfl)
  obtain rfl : c5 = .slice A5 n5 k5 := (List.cons.inj e5).1
  exact ⟨x0, x1, x2, x3, x4, A5, n5, k5, x5, rfl, b0, t0, b1, t1, b2, t2, b3, t3, b4, t4, p5, q5, r5⟩
theorem ops_open {H : Type} {enc : TypeId × Value → H} {W : World} {Av : Option Addr} {n : Nat} {es : List (List Value)} (hl : es.length = n) (hr : Rd W W.heap.size 6 Av n es.flatten) (hes : ∀ y ∈ es, y.length = 6 ∧ ∃ d, Fit enc Tryd.prog W 57 y d) : Ops W W.heap.size Av n := fun hn => by
  obtain ⟨b, off, e, hlt, hc⟩ := hr.at_ hn
  refine ⟨b, off, e, hlt, fun k hk => ?_⟩
  obtain ⟨y, hy⟩ : ∃ y, es[k]? = some y := ⟨_, List.getElem?_eq_getElem (by omega)⟩
  obtain ⟨h3, d, hd⟩ := hes y (List.mem_of_getElem? hy)
  obtain ⟨x0, x1, x2, x3, x4, A5, n5, k5, x5, hcs, b0, t0, b1, t1, b2, t2, b3, t3, b4, t4, p5, q5, r5⟩ := Fit.Op hd
  have hall := flat_at (z := 6) (es := es) (fun x hx => (hes x hx).1) k
  have key : ∀ (j : Nat) (u : Value), j < 6 → y[j]? = some u → W.cell? ⟨b, off + k * 6 + j, none⟩ = some u := fun j u hj hu => by
    have := hc (k * 6 + j) u ((hall j hj).trans (by rw [hy]; exact hu))
    rw [← Nat.add_assoc] at this
    exact this
  exact ⟨x0, x1, x2, x3, x4, A5, n5, k5, x5, key 0 _ (by omega) (by rw [hcs]; rfl), key 1 _ (by omega) (by rw [hcs]; rfl), key 2 _ (by omega) (by rw [hcs]; rfl), key 3 _ (by omega) (by rw [hcs]; rfl), key 4 _ (by omega) (by rw [hcs]; rfl), key 5 _ (by omega) (by rw [hcs]; rfl),
    r5, p5, q5, ⟨b2, t2⟩, ⟨b3, t3⟩, ⟨b4, t4⟩, ⟨b1, t1⟩⟩
end Go.Proofs.YtpkdalpjfcopbaaDoor
