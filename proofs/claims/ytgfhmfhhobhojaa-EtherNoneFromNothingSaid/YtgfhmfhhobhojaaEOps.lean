/-
  A case's calls, opened.
-/
import Derived.Test.YtgfhmfhhobhojaaEState
import Derived.Test.YtgfhmfhhobhojaaBulk
namespace Go.Proofs.Ytgfhmfhhobhojaa
open Go.ChangeShapes Go.WideShapes Go.ChangeAt Go.RowKit
/-- The k-th call that stands from b, off on; its lists no longer than MB, MS. -/
structure EOpAt (w : World) (B MB MS b off k : Nat) (kd p q n : Int) (BA : Option Addr) (bc : Nat) (bs : List UInt8) (SA : Option Addr) (sc : Nat) (sides : List Int) : Prop where
  c0 : w.cell? ⟨b, off + k * 6, none⟩ = some (.int .i64 kd)
  c1 : w.cell? ⟨b, off + k * 6 + 1, none⟩ = some (.int .i64 p)
  c2 : w.cell? ⟨b, off + k * 6 + 2, none⟩ = some (.int .i64 q)
  c3 : w.cell? ⟨b, off + k * 6 + 3, none⟩ = some (.int .i64 n)
  c4 : w.cell? ⟨b, off + k * 6 + 4, none⟩ = some (.slice BA bs.length bc)
  c5 : w.cell? ⟨b, off + k * 6 + 5, none⟩ = some (.slice SA sides.length sc)
  rb : RdB w B BA bs.length bs
  rs : RdI w B SA sides.length sides
  mb : bs.length ≤ MB
  ms : sides.length ≤ MS
  cb : bs.length ≤ bc ∧ bc ≤ 140737488351232
  cs : sides.length ≤ sc ∧ sc * 8 ≤ 140737488351232
  kb : -9223372036854775808 ≤ kd ∧ kd ≤ 9223372036854775807
  pb : -9223372036854775808 ≤ p ∧ p ≤ 9223372036854775807
  qb : -9223372036854775808 ≤ q ∧ q ≤ 9223372036854775807
  nb : -9223372036854775808 ≤ n ∧ n ≤ 9223372036854775807
  sb : ∀ x ∈ sides, -9223372036854775808 ≤ x ∧ x ≤ 9223372036854775807
def EOps (w : World) (B MB MS : Nat) (A : Option Addr) (n : Nat) : Prop := 0 < n → ∃ b off, A = some ⟨b, off, none⟩ ∧ b < B ∧ ∀ k, k < n → ∃ kd p q n BA bc bs SA sc sides, EOpAt w B MB MS b off k kd p q n BA bc bs SA sc sides
theorem EOps.below {w w' : World} {B MB MS : Nat} {A : Option Addr} {n : Nat} (h : EOps w B MB MS A n) (hb : Below B w w') : EOps w' B MB MS A n := fun hn => by
  obtain ⟨b, off, e, hlt, hk⟩ := h hn
  refine ⟨b, off, e, hlt, fun k hk' => ?_⟩
  obtain ⟨kd, p, q, n, BA, bc, bs, SA, sc, sides, ho⟩ := hk k hk'
  have hcl := fun j => hb.cell (p := ⟨b, j, none⟩) hlt
  exact ⟨kd, p, q, n, BA, bc, bs, SA, sc, sides, (hcl _).trans ho.c0, (hcl _).trans ho.c1, (hcl _).trans ho.c2, (hcl _).trans ho.c3, (hcl _).trans ho.c4, (hcl _).trans ho.c5, ho.rb.below hb, ho.rs.below hb, ho.mb, ho.ms, ho.cb, ho.cs, ho.kb, ho.pb, ho.qb, ho.nb, ho.sb⟩
theorem Fit.Op {H : Type} {enc : TypeId × Value → H} {W : World} {cs : List Value} {d : DataW H} (h : Fit enc Try.prog W 33 cs d) :
    ∃ (x0 : Int) (x1 : Int) (x2 : Int) (x3 : Int) (A4 : Option Addr) (n4 k4 : Nat) (x4 : List UInt8) (A5 : Option Addr) (n5 k5 : Nat) (x5 : List Int), cs = [.int .i64 x0, .int .i64 x1, .int .i64 x2, .int .i64 x3, .slice A4 n4 k4, .slice A5 n5 k5] ∧ -9223372036854775808 ≤ x0 ∧ x0 ≤ 9223372036854775807 ∧ -9223372036854775808 ≤ x1 ∧ x1 ≤ 9223372036854775807 ∧ -9223372036854775808 ≤ x2 ∧ x2 ≤ 9223372036854775807 ∧ -9223372036854775808 ≤ x3 ∧ x3 ≤ 9223372036854775807 ∧ n4 ≤ k4 ∧ k4 ≤ 140737488351232 ∧ RdB W W.heap.size A4 n4 x4 ∧ n5 ≤ k5 ∧ k5 * 8 ≤ 140737488351232 ∧ RdI W W.heap.size A5 n5 x5 ∧ (∀ x ∈ x5, -9223372036854775808 ≤ x ∧ x ≤ 9223372036854775807) := by
  have hl := Fit.structLen Try.underlying33 h (by kernel_rfl : Try.prog.cellsOf 33 = 6)
  match cs, hl, h with
  | [c0, c1, c2, c3, c4, c5], _, h =>
  obtain ⟨df_0, f_0⟩ : ∃ di, Fit enc Try.prog W 3 [c0] di := Fit.fld (T := 3) (o := 0) (z := 1) Try.underlying33 h 0 rfl rfl rfl (by kernel_rfl)
  obtain ⟨x0, e0, b0, t0⟩ := f_0.i64 Try.underlying3
  obtain rfl : c0 = .int .i64 x0 := (List.cons.inj e0).1
  obtain ⟨df_1, f_1⟩ : ∃ di, Fit enc Try.prog W 3 [c1] di := Fit.fld (T := 3) (o := 1) (z := 1) Try.underlying33 h 1 rfl rfl rfl (by kernel_rfl)
  obtain ⟨x1, e1, b1, t1⟩ := f_1.i64 Try.underlying3
  obtain rfl : c1 = .int .i64 x1 := (List.cons.inj e1).1
  obtain ⟨df_2, f_2⟩ : ∃ di, Fit enc Try.prog W 3 [c2] di := Fit.fld (T := 3) (o := 2) (z := 1) Try.underlying33 h 2 rfl rfl rfl (by kernel_rfl)
  obtain ⟨x2, e2, b2, t2⟩ := f_2.i64 Try.underlying3
  obtain rfl : c2 = .int .i64 x2 := (List.cons.inj e2).1
  obtain ⟨df_3, f_3⟩ : ∃ di, Fit enc Try.prog W 3 [c3] di := Fit.fld (T := 3) (o := 3) (z := 1) Try.underlying33 h 3 rfl rfl rfl (by kernel_rfl)
  obtain ⟨x3, e3, b3, t3⟩ := f_3.i64 Try.underlying3
  obtain rfl : c3 = .int .i64 x3 := (List.cons.inj e3).1
  obtain ⟨df_4, f_4⟩ : ∃ di, Fit enc Try.prog W 30 [c4] di := Fit.fld (T := 30) (o := 4) (z := 1) Try.underlying33 h 4 rfl rfl rfl (by kernel_rfl)
  obtain ⟨A4, n4, k4, x4, e4, p4, q4, r4⟩ := f_4.bytes Try.underlying30 Try.underlying5 (by kernel_rfl) (by kernel_rfl)
  obtain rfl : c4 = .slice A4 n4 k4 := (List.cons.inj e4).1
  obtain ⟨df_5, f_5⟩ : ∃ di, Fit enc Try.prog W 31 [c5] di := Fit.fld (T := 31) (o := 5) (z := 1) Try.underlying33 h 5 rfl rfl rfl (by kernel_rfl)
  obtain ⟨A5, n5, k5, x5, e5, p5, q5, r5, s5⟩ := f_5.ints Try.underlying31 Try.underlying3 (by kernel_rfl) (by kernel_rfl)
  obtain rfl : c5 = .slice A5 n5 k5 := (List.cons.inj e5).1
  exact ⟨x0, x1, x2, x3, A4, n4, k4, x4, A5, n5, k5, x5, rfl, b0, t0, b1, t1, b2, t2, b3, t3, p4, q4, r4, p5, q5, r5, s5⟩
theorem Fit.Case {H : Type} {enc : TypeId × Value → H} {W : World} {cs : List Value} {d : DataW H} (h : Fit enc Try.prog W 24 cs d) :
    ∃ (x0 : Int) (x1 : Int) (A2 : Option Addr) (n2 k2 : Nat) (x2 : List (List Value)), cs = [.int .i64 x0, .int .i64 x1, .slice A2 n2 k2] ∧ -9223372036854775808 ≤ x0 ∧ x0 ≤ 9223372036854775807 ∧ -9223372036854775808 ≤ x1 ∧ x1 ≤ 9223372036854775807 ∧ n2 ≤ k2 ∧ k2 * 80 ≤ 140737488351232 ∧ x2.length = n2 ∧ Rd W W.heap.size 6 A2 n2 x2.flatten ∧ (∀ y ∈ x2, y.length = 6 ∧ ∃ d, Fit enc Try.prog W 33 y d) := by
  have hl := Fit.structLen Try.underlying24 h (by kernel_rfl : Try.prog.cellsOf 24 = 3)
  match cs, hl, h with
  | [c0, c1, c2], _, h =>
  obtain ⟨df_0, f_0⟩ : ∃ di, Fit enc Try.prog W 3 [c0] di := Fit.fld (T := 3) (o := 0) (z := 1) Try.underlying24 h 0 rfl rfl rfl (by kernel_rfl)
  obtain ⟨x0, e0, b0, t0⟩ := f_0.i64 Try.underlying3
  obtain rfl : c0 = .int .i64 x0 := (List.cons.inj e0).1
  obtain ⟨df_1, f_1⟩ : ∃ di, Fit enc Try.prog W 3 [c1] di := Fit.fld (T := 3) (o := 1) (z := 1) Try.underlying24 h 1 rfl rfl rfl (by kernel_rfl)
  obtain ⟨x1, e1, b1, t1⟩ := f_1.i64 Try.underlying3
  obtain rfl : c1 = .int .i64 x1 := (List.cons.inj e1).1
  obtain ⟨df_2, f_2⟩ : ∃ di, Fit enc Try.prog W 22 [c2] di := Fit.fld (T := 22) (o := 2) (z := 1) Try.underlying24 h 2 rfl rfl rfl (by kernel_rfl)
  obtain ⟨A2, n2, k2, x2, e2, p2, q2, l2, r2, s2⟩ := f_2.rows Try.underlying22 (by kernel_rfl : Try.prog.cellsOf 33 = 6) (by kernel_rfl : Try.prog.bytesOf 33 = 80) (by omega)
  obtain rfl : c2 = .slice A2 n2 k2 := (List.cons.inj e2).1
  exact ⟨x0, x1, A2, n2, k2, x2, rfl, b0, t0, b1, t1, p2, q2, l2, r2, s2⟩
theorem FitU.Op {H : Type} {enc : TypeId × Value → H} {W : World} {cs : List Value} {d : DataW H} (h : FitU enc Try.prog W 33 cs d) :
    ∃ (x0 : Int) (x1 : Int) (x2 : Int) (x3 : Int) (A4 : Option Addr) (n4 k4 : Nat) (x4 : List UInt8) (A5 : Option Addr) (n5 k5 : Nat) (x5 : List Int), cs = [.int .i64 x0, .int .i64 x1, .int .i64 x2, .int .i64 x3, .slice A4 n4 k4, .slice A5 n5 k5] ∧ -9223372036854775808 ≤ x0 ∧ x0 ≤ 9223372036854775807 ∧ -9223372036854775808 ≤ x1 ∧ x1 ≤ 9223372036854775807 ∧ -9223372036854775808 ≤ x2 ∧ x2 ≤ 9223372036854775807 ∧ -9223372036854775808 ≤ x3 ∧ x3 ≤ 9223372036854775807 ∧ n4 ≤ 1048576 ∧ n4 ≤ k4 ∧ k4 ≤ 140737488351232 ∧ RdB W W.heap.size A4 n4 x4 ∧ n5 ≤ 1048576 ∧ n5 ≤ k5 ∧ k5 * 8 ≤ 140737488351232 ∧ RdI W W.heap.size A5 n5 x5 ∧ (∀ x ∈ x5, -9223372036854775808 ≤ x ∧ x ≤ 9223372036854775807) := by
  have hl := FitU.structLen Try.underlying33 h (by kernel_rfl : Try.prog.cellsOf 33 = 6)
  match cs, hl, h with
  | [c0, c1, c2, c3, c4, c5], _, h =>
  obtain ⟨df_0, f_0⟩ : ∃ di, FitU enc Try.prog W 3 [c0] di := FitU.fld (T := 3) (o := 0) (z := 1) Try.underlying33 h 0 rfl rfl rfl (by kernel_rfl)
  obtain ⟨x0, e0, b0, t0⟩ := f_0.i64 Try.underlying3
  obtain rfl : c0 = .int .i64 x0 := (List.cons.inj e0).1
  obtain ⟨df_1, f_1⟩ : ∃ di, FitU enc Try.prog W 3 [c1] di := FitU.fld (T := 3) (o := 1) (z := 1) Try.underlying33 h 1 rfl rfl rfl (by kernel_rfl)
  obtain ⟨x1, e1, b1, t1⟩ := f_1.i64 Try.underlying3
  obtain rfl : c1 = .int .i64 x1 := (List.cons.inj e1).1
  obtain ⟨df_2, f_2⟩ : ∃ di, FitU enc Try.prog W 3 [c2] di := FitU.fld (T := 3) (o := 2) (z := 1) Try.underlying33 h 2 rfl rfl rfl (by kernel_rfl)
  obtain ⟨x2, e2, b2, t2⟩ := f_2.i64 Try.underlying3
  obtain rfl : c2 = .int .i64 x2 := (List.cons.inj e2).1
  obtain ⟨df_3, f_3⟩ : ∃ di, FitU enc Try.prog W 3 [c3] di := FitU.fld (T := 3) (o := 3) (z := 1) Try.underlying33 h 3 rfl rfl rfl (by kernel_rfl)
  obtain ⟨x3, e3, b3, t3⟩ := f_3.i64 Try.underlying3
  obtain rfl : c3 = .int .i64 x3 := (List.cons.inj e3).1
  obtain ⟨df_4, f_4⟩ : ∃ di, FitU enc Try.prog W 30 [c4] di := FitU.fld (T := 30) (o := 4) (z := 1) Try.underlying33 h 4 rfl rfl rfl (by kernel_rfl)
  obtain ⟨A4, n4, k4, x4, e4, u4, p4, q4, r4⟩ := f_4.bytes Try.underlying30 Try.underlying5 (by kernel_rfl) (by kernel_rfl)
  obtain rfl : c4 = .slice A4 n4 k4 := (List.cons.inj e4).1
  obtain ⟨df_5, f_5⟩ : ∃ di, FitU enc Try.prog W 31 [c5] di := FitU.fld (T := 31) (o := 5) (z := 1) Try.underlying33 h 5 rfl rfl rfl (by kernel_rfl)
  obtain ⟨A5, n5, k5, x5, e5, u5, p5, q5, r5, s5⟩ := f_5.ints Try.underlying31 Try.underlying3 (by kernel_rfl) (by kernel_rfl)
  obtain rfl : c5 = .slice A5 n5 k5 := (List.cons.inj e5).1
  exact ⟨x0, x1, x2, x3, A4, n4, k4, x4, A5, n5, k5, x5, rfl, b0, t0, b1, t1, b2, t2, b3, t3, u4, p4, q4, r4, u5, p5, q5, r5, s5⟩
theorem FitU.Case {H : Type} {enc : TypeId × Value → H} {W : World} {cs : List Value} {d : DataW H} (h : FitU enc Try.prog W 24 cs d) :
    ∃ (x0 : Int) (x1 : Int) (A2 : Option Addr) (n2 k2 : Nat) (x2 : List (List Value)), cs = [.int .i64 x0, .int .i64 x1, .slice A2 n2 k2] ∧ -9223372036854775808 ≤ x0 ∧ x0 ≤ 9223372036854775807 ∧ -9223372036854775808 ≤ x1 ∧ x1 ≤ 9223372036854775807 ∧ n2 ≤ 1048576 ∧ n2 ≤ k2 ∧ k2 * 80 ≤ 140737488351232 ∧ x2.length = n2 ∧ Rd W W.heap.size 6 A2 n2 x2.flatten ∧ (∀ y ∈ x2, y.length = 6 ∧ ∃ d, FitU enc Try.prog W 33 y d) := by
  have hl := FitU.structLen Try.underlying24 h (by kernel_rfl : Try.prog.cellsOf 24 = 3)
  match cs, hl, h with
  | [c0, c1, c2], _, h =>
  obtain ⟨df_0, f_0⟩ : ∃ di, FitU enc Try.prog W 3 [c0] di := FitU.fld (T := 3) (o := 0) (z := 1) Try.underlying24 h 0 rfl rfl rfl (by kernel_rfl)
  obtain ⟨x0, e0, b0, t0⟩ := f_0.i64 Try.underlying3
  obtain rfl : c0 = .int .i64 x0 := (List.cons.inj e0).1
  obtain ⟨df_1, f_1⟩ : ∃ di, FitU enc Try.prog W 3 [c1] di := FitU.fld (T := 3) (o := 1) (z := 1) Try.underlying24 h 1 rfl rfl rfl (by kernel_rfl)
  obtain ⟨x1, e1, b1, t1⟩ := f_1.i64 Try.underlying3
  obtain rfl : c1 = .int .i64 x1 := (List.cons.inj e1).1
  obtain ⟨df_2, f_2⟩ : ∃ di, FitU enc Try.prog W 22 [c2] di := FitU.fld (T := 22) (o := 2) (z := 1) Try.underlying24 h 2 rfl rfl rfl (by kernel_rfl)
  obtain ⟨A2, n2, k2, x2, e2, u2, p2, q2, l2, r2, s2⟩ := f_2.rows Try.underlying22 (by kernel_rfl : Try.prog.cellsOf 33 = 6) (by kernel_rfl : Try.prog.bytesOf 33 = 80) (by omega)
  obtain rfl : c2 = .slice A2 n2 k2 := (List.cons.inj e2).1
  exact ⟨x0, x1, A2, n2, k2, x2, rfl, b0, t0, b1, t1, u2, p2, q2, l2, r2, s2⟩
theorem eops_open {H : Type} {enc : TypeId × Value → H} {W : World} {Av : Option Addr} {n : Nat} {es : List (List Value)} (hl : es.length = n) (hr : Rd W W.heap.size 6 Av n es.flatten) (hes : ∀ y ∈ es, y.length = 6 ∧ ∃ d, Fit enc Try.prog W 33 y d) : EOps W W.heap.size 140737488351232 17592186043904 Av n := fun hn => by
  obtain ⟨b, off, e, hlt, hc⟩ := hr.at_ hn
  refine ⟨b, off, e, hlt, fun k hk => ?_⟩
  obtain ⟨y, hy⟩ : ∃ y, es[k]? = some y := ⟨_, List.getElem?_eq_getElem (by omega)⟩
  obtain ⟨h3, d, hd⟩ := hes y (List.mem_of_getElem? hy)
  obtain ⟨x0, x1, x2, x3, A4, n4, k4, x4, A5, n5, k5, x5, hcs, b0, t0, b1, t1, b2, t2, b3, t3, p4, q4, r4, p5, q5, r5, s5⟩ := Fit.Op hd
  obtain rfl := r4.lenB
  obtain rfl : x5.length = n5 := by have := r5.len; rw [ivs_length] at this; omega
  have hall := flat_at (z := 6) (es := es) (fun x hx => (hes x hx).1) k
  have hg := fun (j : Nat) (u : Value) (hj : j < 6) (hu : y[j]? = some u) => hc (k * 6 + j) u ((hall j hj).trans (by rw [hy]; exact hu))
  have a0 := hg 0 _ (by omega) (by rw [hcs]; rfl)
  have a1 := hg 1 _ (by omega) (by rw [hcs]; rfl)
  have a2 := hg 2 _ (by omega) (by rw [hcs]; rfl)
  have a3 := hg 3 _ (by omega) (by rw [hcs]; rfl)
  have a4 := hg 4 _ (by omega) (by rw [hcs]; rfl)
  have a5 := hg 5 _ (by omega) (by rw [hcs]; rfl)
  rw [← Nat.add_assoc] at a1 a2 a3 a4 a5
  exact ⟨x0, x1, x2, x3, A4, k4, x4, A5, k5, x5, a0, a1, a2, a3, a4, a5, r4, r5, by omega, by omega, ⟨p4, q4⟩, ⟨p5, q5⟩, ⟨b0, t0⟩, ⟨b1, t1⟩, ⟨b2, t2⟩, ⟨b3, t3⟩, s5⟩
theorem eops_openU {H : Type} {enc : TypeId × Value → H} {W : World} {Av : Option Addr} {n : Nat} {es : List (List Value)} (hl : es.length = n) (hr : Rd W W.heap.size 6 Av n es.flatten) (hes : ∀ y ∈ es, y.length = 6 ∧ ∃ d, FitU enc Try.prog W 33 y d) : EOps W W.heap.size 1048576 1048576 Av n := fun hn => by
  obtain ⟨b, off, e, hlt, hc⟩ := hr.at_ hn
  refine ⟨b, off, e, hlt, fun k hk => ?_⟩
  obtain ⟨y, hy⟩ : ∃ y, es[k]? = some y := ⟨_, List.getElem?_eq_getElem (by omega)⟩
  obtain ⟨h3, d, hd⟩ := hes y (List.mem_of_getElem? hy)
  obtain ⟨x0, x1, x2, x3, A4, n4, k4, x4, A5, n5, k5, x5, hcs, b0, t0, b1, t1, b2, t2, b3, t3, u4, p4, q4, r4, u5, p5, q5, r5, s5⟩ := FitU.Op hd
  obtain rfl := r4.lenB
  obtain rfl : x5.length = n5 := by have := r5.len; rw [ivs_length] at this; omega
  have hall := flat_at (z := 6) (es := es) (fun x hx => (hes x hx).1) k
  have hg := fun (j : Nat) (u : Value) (hj : j < 6) (hu : y[j]? = some u) => hc (k * 6 + j) u ((hall j hj).trans (by rw [hy]; exact hu))
  have a0 := hg 0 _ (by omega) (by rw [hcs]; rfl)
  have a1 := hg 1 _ (by omega) (by rw [hcs]; rfl)
  have a2 := hg 2 _ (by omega) (by rw [hcs]; rfl)
  have a3 := hg 3 _ (by omega) (by rw [hcs]; rfl)
  have a4 := hg 4 _ (by omega) (by rw [hcs]; rfl)
  have a5 := hg 5 _ (by omega) (by rw [hcs]; rfl)
  rw [← Nat.add_assoc] at a1 a2 a3 a4 a5
  exact ⟨x0, x1, x2, x3, A4, k4, x4, A5, k5, x5, a0, a1, a2, a3, a4, a5, r4, r5, u4, u5, ⟨p4, q4⟩, ⟨p5, q5⟩, ⟨b0, t0⟩, ⟨b1, t1⟩, ⟨b2, t2⟩, ⟨b3, t3⟩, s5⟩
end Go.Proofs.Ytgfhmfhhobhojaa
