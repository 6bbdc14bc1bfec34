/-
  DetectTurns: both pairs beside what is kept; the steps, opened.
-/
import Derived.Test.YtfjpmoigpnmeoaaDTurB
import Derived.Test.YtfjpmoigpnmeoaaBulk
namespace Go.Proofs.Ytfjpmoigpnmeoaa
open Go.ChangeShapes Go.WideShapes Go.ChangeAt Go.RowKit
theorem FitU.Op {H : Type} {enc : TypeId × Value → H} {W : World} {cs : List Value} {d : DataW H} (h : FitU enc Try.prog W 61 cs d) :
    ∃ (x0 : Int) (x1 : Int) (x2 : Int) (x3 : Int) (A4 : Option Addr) (n4 k4 : Nat) (x4 : List Int), cs = [.int .i64 x0, .int .i64 x1, .int .i64 x2, .int .i64 x3, .slice A4 n4 k4] ∧ -9223372036854775808 ≤ x0 ∧ x0 ≤ 9223372036854775807 ∧ -9223372036854775808 ≤ x1 ∧ x1 ≤ 9223372036854775807 ∧ -9223372036854775808 ≤ x2 ∧ x2 ≤ 9223372036854775807 ∧ -9223372036854775808 ≤ x3 ∧ x3 ≤ 9223372036854775807 ∧ n4 ≤ 1048576 ∧ n4 ≤ k4 ∧ k4 * 8 ≤ 140737488351232 ∧ RdI W W.heap.size A4 n4 x4 ∧ (∀ x ∈ x4, -9223372036854775808 ≤ x ∧ x ≤ 9223372036854775807) := by
  have hl := FitU.structLen Try.underlying61 h (by kernel_rfl : Try.prog.cellsOf 61 = 5)
  match cs, hl, h with
  | [c0, c1, c2, c3, c4], _, h =>
  obtain ⟨df_0, f_0⟩ : ∃ di, FitU enc Try.prog W 3 [c0] di := FitU.fld (T := 3) (o := 0) (z := 1) Try.underlying61 h 0 rfl rfl rfl (by kernel_rfl)
  obtain ⟨x0, e0, b0, t0⟩ := f_0.i64 Try.underlying3
  obtain rfl : c0 = .int .i64 x0 := (List.cons.inj e0).1
  obtain ⟨df_1, f_1⟩ : ∃ di, FitU enc Try.prog W 3 [c1] di := FitU.fld (T := 3) (o := 1) (z := 1) Try.underlying61 h 1 rfl rfl rfl (by kernel_rfl)
  obtain ⟨x1, e1, b1, t1⟩ := f_1.i64 Try.underlying3
  obtain rfl : c1 = .int .i64 x1 := (List.cons.inj e1).1
  obtain ⟨df_2, f_2⟩ : ∃ di, FitU enc Try.prog W 3 [c2] di := FitU.fld (T := 3) (o := 2) (z := 1) Try.underlying61 h 2 rfl rfl rfl (by kernel_rfl)
  obtain ⟨x2, e2, b2, t2⟩ := f_2.i64 Try.underlying3
  obtain rfl : c2 = .int .i64 x2 := (List.cons.inj e2).1
  obtain ⟨df_3, f_3⟩ : ∃ di, FitU enc Try.prog W 3 [c3] di := FitU.fld (T := 3) (o := 3) (z := 1) Try.underlying61 h 3 rfl rfl rfl (by kernel_rfl)
  obtain ⟨x3, e3, b3, t3⟩ := f_3.i64 Try.underlying3
  obtain rfl : c3 = .int .i64 x3 := (List.cons.inj e3).1
  obtain ⟨df_4, f_4⟩ : ∃ di, FitU enc Try.prog W 22 [c4] di := FitU.fld (T := 22) (o := 4) (z := 1) Try.underlying61 h 4 rfl rfl rfl (by kernel_rfl)
  obtain ⟨A4, n4, k4, x4, e4, u4, p4, q4, r4, s4⟩ := f_4.ints Try.underlying22 Try.underlying3 (by kernel_rfl) (by kernel_rfl)
  obtain rfl : c4 = .slice A4 n4 k4 := (List.cons.inj e4).1
  exact ⟨x0, x1, x2, x3, A4, n4, k4, x4, rfl, b0, t0, b1, t1, b2, t2, b3, t3, u4, p4, q4, r4, s4⟩
theorem FitU.Run {H : Type} {enc : TypeId × Value → H} {W : World} {cs : List Value} {d : DataW H} (h : FitU enc Try.prog W 27 cs d) :
    ∃ (x0 : Int) (x1 : Int) (x2 : Int) (x3 : Int) (x4 : Int) (x5 : Int) (A6 : Option Addr) (n6 k6 : Nat) (x6 : List (List Value)), cs = [.int .i64 x0, .int .i64 x1, .int .i64 x2, .int .i64 x3, .int .i64 x4, .int .i64 x5, .slice A6 n6 k6] ∧ -9223372036854775808 ≤ x0 ∧ x0 ≤ 9223372036854775807 ∧ -9223372036854775808 ≤ x1 ∧ x1 ≤ 9223372036854775807 ∧ -9223372036854775808 ≤ x2 ∧ x2 ≤ 9223372036854775807 ∧ -9223372036854775808 ≤ x3 ∧ x3 ≤ 9223372036854775807 ∧ -9223372036854775808 ≤ x4 ∧ x4 ≤ 9223372036854775807 ∧ -9223372036854775808 ≤ x5 ∧ x5 ≤ 9223372036854775807 ∧ n6 ≤ 1048576 ∧ n6 ≤ k6 ∧ k6 * 56 ≤ 140737488351232 ∧ x6.length = n6 ∧ Rd W W.heap.size 5 A6 n6 x6.flatten ∧ (∀ y ∈ x6, y.length = 5 ∧ ∃ d, FitU enc Try.prog W 61 y d) := by
  have hl := FitU.structLen Try.underlying27 h (by kernel_rfl : Try.prog.cellsOf 27 = 7)
  match cs, hl, h with
  | [c0, c1, c2, c3, c4, c5, c6], _, h =>
  obtain ⟨df_0, f_0⟩ : ∃ di, FitU enc Try.prog W 3 [c0] di := FitU.fld (T := 3) (o := 0) (z := 1) Try.underlying27 h 0 rfl rfl rfl (by kernel_rfl)
  obtain ⟨x0, e0, b0, t0⟩ := f_0.i64 Try.underlying3
  obtain rfl : c0 = .int .i64 x0 := (List.cons.inj e0).1
  obtain ⟨df_1, f_1⟩ : ∃ di, FitU enc Try.prog W 3 [c1] di := FitU.fld (T := 3) (o := 1) (z := 1) Try.underlying27 h 1 rfl rfl rfl (by kernel_rfl)
  obtain ⟨x1, e1, b1, t1⟩ := f_1.i64 Try.underlying3
  obtain rfl : c1 = .int .i64 x1 := (List.cons.inj e1).1
  obtain ⟨df_2, f_2⟩ : ∃ di, FitU enc Try.prog W 3 [c2] di := FitU.fld (T := 3) (o := 2) (z := 1) Try.underlying27 h 2 rfl rfl rfl (by kernel_rfl)
  obtain ⟨x2, e2, b2, t2⟩ := f_2.i64 Try.underlying3
  obtain rfl : c2 = .int .i64 x2 := (List.cons.inj e2).1
  obtain ⟨df_3, f_3⟩ : ∃ di, FitU enc Try.prog W 3 [c3] di := FitU.fld (T := 3) (o := 3) (z := 1) Try.underlying27 h 3 rfl rfl rfl (by kernel_rfl)
  obtain ⟨x3, e3, b3, t3⟩ := f_3.i64 Try.underlying3
  obtain rfl : c3 = .int .i64 x3 := (List.cons.inj e3).1
  obtain ⟨df_4, f_4⟩ : ∃ di, FitU enc Try.prog W 3 [c4] di := FitU.fld (T := 3) (o := 4) (z := 1) Try.underlying27 h 4 rfl rfl rfl (by kernel_rfl)
  obtain ⟨x4, e4, b4, t4⟩ := f_4.i64 Try.underlying3
  obtain rfl : c4 = .int .i64 x4 := (List.cons.inj e4).1
  obtain ⟨df_5, f_5⟩ : ∃ di, FitU enc Try.prog W 3 [c5] di := FitU.fld (T := 3) (o := 5) (z := 1) Try.underlying27 h 5 rfl rfl rfl (by kernel_rfl)
  obtain ⟨x5, e5, b5, t5⟩ := f_5.i64 Try.underlying3
  obtain rfl : c5 = .int .i64 x5 := (List.cons.inj e5).1
  obtain ⟨df_6, f_6⟩ : ∃ di, FitU enc Try.prog W 25 [c6] di := FitU.fld (T := 25) (o := 6) (z := 1) Try.underlying27 h 6 rfl rfl rfl (by kernel_rfl)
  obtain ⟨A6, n6, k6, x6, e6, u6, p6, q6, l6, r6, s6⟩ := f_6.rows Try.underlying25 (by kernel_rfl : Try.prog.cellsOf 61 = 5) (by kernel_rfl : Try.prog.bytesOf 61 = 56) (by omega)
  obtain rfl : c6 = .slice A6 n6 k6 := (List.cons.inj e6).1
  exact ⟨x0, x1, x2, x3, x4, x5, A6, n6, k6, x6, rfl, b0, t0, b1, t1, b2, t2, b3, t3, b4, t4, b5, t5, u6, p6, q6, l6, r6, s6⟩
def OpsU (w : World) (B : Nat) (A : Option Addr) (n : Nat) : Prop := 0 < n → ∃ b off, A = some ⟨b, off, none⟩ ∧ b < B ∧ ∀ k, k < n → ∃ kd q inc tick Ac nc capc hs, OpAt w B b off k kd q inc tick Ac nc capc hs ∧ nc ≤ 1048576
theorem OpsU.below {w w' : World} {B : Nat} {A : Option Addr} {n : Nat} (h : OpsU w B A n) (hb : Below B w w') : OpsU w' B A n := fun hn => by
  obtain ⟨b, off, e, hlt, hk⟩ := h hn
  refine ⟨b, off, e, hlt, fun k hk' => ?_⟩
  obtain ⟨kd, q, inc, tick, Ac, nc, capc, hs, ho, hm⟩ := hk k hk'
  exact ⟨kd, q, inc, tick, Ac, nc, capc, hs, ⟨(hb.cell (p := ⟨b, _, none⟩) hlt).trans ho.c0, (hb.cell (p := ⟨b, _, none⟩) hlt).trans ho.c1, (hb.cell (p := ⟨b, _, none⟩) hlt).trans ho.c2, (hb.cell (p := ⟨b, _, none⟩) hlt).trans ho.c3, (hb.cell (p := ⟨b, _, none⟩) hlt).trans ho.c4, ho.le, ho.cap, ho.rd.below hb, ho.kb, ho.qb, ho.ib, ho.tb, ho.hb⟩, hm⟩
theorem ops_openU {H : Type} {enc : TypeId × Value → H} {W : World} {Av : Option Addr} {n : Nat} {es : List (List Value)} (hl : es.length = n) (hr : Rd W W.heap.size 5 Av n es.flatten) (hes : ∀ y ∈ es, y.length = 5 ∧ ∃ d, FitU enc Try.prog W 61 y d) : OpsU W W.heap.size Av n := fun hn => by
  obtain ⟨b, off, e, hlt, hc⟩ := hr.at_ hn
  refine ⟨b, off, e, hlt, fun k hk => ?_⟩
  obtain ⟨y, hy⟩ : ∃ y, es[k]? = some y := ⟨_, List.getElem?_eq_getElem (by omega)⟩
  obtain ⟨h3, d, hd⟩ := hes y (List.mem_of_getElem? hy)
  obtain ⟨x0, x1, x2, x3, A4, n4, k4, x4, hcs, b0, t0, b1, t1, b2, t2, b3, t3, u4, p4, q4, r4, s4⟩ := FitU.Op hd
  have hall := flat_at (z := 5) (es := es) (fun x hx => (hes x hx).1) k
  have hg := fun (j : Nat) (u : Value) (hj : j < 5) (hu : y[j]? = some u) => hc (k * 5 + j) u ((hall j hj).trans (by rw [hy]; exact hu))
  have a0 := hg 0 (.int .i64 x0) (by omega) (by rw [hcs]; rfl)
  have a1 := hg 1 (.int .i64 x1) (by omega) (by rw [hcs]; rfl)
  have a2 := hg 2 (.int .i64 x2) (by omega) (by rw [hcs]; rfl)
  have a3 := hg 3 (.int .i64 x3) (by omega) (by rw [hcs]; rfl)
  have a4 := hg 4 (.slice A4 n4 k4) (by omega) (by rw [hcs]; rfl)
  rw [← Nat.add_assoc] at a1 a2 a3 a4
  exact ⟨x0, x1, x2, x3, A4, n4, k4, x4, ⟨a0, a1, a2, a3, a4, p4, by omega, r4, ⟨b0, t0⟩, ⟨b1, t1⟩, ⟨b2, t2⟩, ⟨b3, t3⟩, s4⟩, u4⟩
/-- Both pairs, and what is kept. -/
structure TuS (w0 w : World) (H : Nat) (c1 c2 : Cfg) (D1 K1 D2 K2 : Nat) (N : Nat) : Prop where
  st : ∃ (F1 F2 : Nat → Prop) (l1 l2 : List Ev) (KL : List Gt) (vG vW vR : Value), Pair w F1 c1 D1 K1 l1 ∧ Pair w F2 c2 D2 K2 l2 ∧ (∀ k, F1 k → ¬ F2 k) ∧ (∀ k, F1 k → w0.heap.size ≤ k) ∧ (∀ k, F2 k → w0.heap.size ≤ k) ∧ l1.length ≤ N ∧ l2.length ≤ N ∧ KL.length ≤ 2 * N ∧ (∀ (k : Nat) (x : Gt), KL[k]? = some x → x.l.length ≤ 17) ∧
    HeldW w w0.heap.size (fun k => F1 k ∨ F2 k) H vG vW (.slice none 0 0) vR KL
  chg : Below w0.heap.size w0 w
section
variable {w0 w w' : World} {H : Nat} {c1 c2 : Cfg} {D1 K1 D2 K2 N : Nat}
theorem Pair.lt {w : World} {F : Nat → Prop} {c : Cfg} {D K : Nat} {l : List Ev} (h : Pair w F c D K l) : ∀ k, F k → k < w.heap.size := by
  obtain ⟨_, _, _, _, _, _, _, h6⟩ := h
  exact h6
theorem TuS.over (h : TuS w0 w H c1 c2 D1 K1 D2 K2 N) (hb : Below w.heap.size w w') : TuS w0 w' H c1 c2 D1 K1 D2 K2 N := by
  obtain ⟨F1, F2, l1, l2, KL, vG, vW, vR, a1, a2, a3, a4, a5, a6, a7, a8, a9, b1⟩ := h.st
  exact ⟨⟨F1, F2, l1, l2, KL, vG, vW, vR, a1.below hb, a2.below hb, a3, a4, a5, a6, a7, a8, a9, b1.over hb⟩, h.chg.trans (hb.mono h.chg.size)⟩
/-- A step of the first pair: what held gives. -/
theorem TuS.held1 (h : TuS w0 w H c1 c2 D1 K1 D2 K2 N) (hc : c1.Ok) (hN : N ≤ 400000) (A : Option Addr) (n cap : Nat) (hs : List Int) (kd q inc tick : Int) {Bi : Nat} (hr : RdI w Bi A n hs) (hBi : Bi ≤ w0.heap.size) (hm : n ≤ 1048576) :
    Calls Try.prog 39 #[.pointer (some ⟨H, 0, none⟩), .pointer (some ⟨D1, 0, none⟩), .pointer (some ⟨K1, 0, none⟩), .agg #[.int .i64 kd, .int .i64 q, .int .i64 inc, .int .i64 tick, .slice A n cap]] w fun e w' => e = .returned (.bool true) ∧ TuS w0 w' H c1 c2 D1 K1 D2 K2 (N + 1) := by
  obtain ⟨F1, F2, l1, l2, KL, vG, vW, vR, a1, a2, a3, a4, a5, a6, a7, a8, a9, b1⟩ := h.st
  refine (held_any A n cap hs kd q inc tick hc a1 (by omega) a3 a2.lt (fun k h => .inl h) (fun k h => .inr h) (fun k h => h) b1 hr hBi h.chg.size a4 hm (by omega) (by omega) a9).mono fun e w' hh => ?_
  obtain ⟨he, F', l', vG', vW', vR', KL', c1', c2', c3', c4', c5', c6', c7'⟩ := hh
  refine ⟨he, ⟨⟨F', F2, l', l2, KL', vG', vW', vR', c1', a2.chg c6' (fun k hk e => e.2 hk), fun k hk h2 => ?_, fun k hk => ?_, a5, by omega, by omega, by omega, c7', c4'⟩, h.chg.trans (c6'.to_below h.chg.size fun k e => e.1)⟩⟩
  · rcases c3' k hk with e | e
    · exact a3 k e h2
    · have := a2.lt k h2; omega
  · rcases c3' k hk with e | e
    · exact a4 k e
    · have := h.chg.size; omega
theorem TuS.held2 (h : TuS w0 w H c1 c2 D1 K1 D2 K2 N) (hc : c2.Ok) (hN : N ≤ 400000) (A : Option Addr) (n cap : Nat) (hs : List Int) (kd q inc tick : Int) {Bi : Nat} (hr : RdI w Bi A n hs) (hBi : Bi ≤ w0.heap.size) (hm : n ≤ 1048576) :
    Calls Try.prog 39 #[.pointer (some ⟨H, 0, none⟩), .pointer (some ⟨D2, 0, none⟩), .pointer (some ⟨K2, 0, none⟩), .agg #[.int .i64 kd, .int .i64 q, .int .i64 inc, .int .i64 tick, .slice A n cap]] w fun e w' => e = .returned (.bool true) ∧ TuS w0 w' H c1 c2 D1 K1 D2 K2 (N + 1) := by
  obtain ⟨F1, F2, l1, l2, KL, vG, vW, vR, a1, a2, a3, a4, a5, a6, a7, a8, a9, b1⟩ := h.st
  refine (held_any A n cap hs kd q inc tick hc a2 (by omega) (fun k h h' => a3 k h' h) a1.lt (fun k h => .inr h) (fun k h => .inl h) (fun k h => h.symm) b1 hr hBi h.chg.size a5 hm (by omega) (by omega) a9).mono fun e w' hh => ?_
  obtain ⟨he, F', l', vG', vW', vR', KL', c1', c2', c3', c4', c5', c6', c7'⟩ := hh
  have e2 : (fun k => F' k ∨ F1 k) = fun k => F1 k ∨ F' k := funext fun k => propext or_comm
  rw [e2] at c4'
  refine ⟨he, ⟨⟨F1, F', l1, l', KL', vG', vW', vR', a1.chg c6' (fun k hk e => e.2 hk), c1', fun k hk h2 => ?_, a4, fun k hk => ?_, by omega, by omega, by omega, c7', c4'⟩, h.chg.trans (c6'.to_below h.chg.size fun k e => e.1)⟩⟩
  · rcases c3' k h2 with e | e
    · exact a3 k hk e
    · have := a1.lt k hk; omega
  · rcases c3' k hk with e | e
    · exact a5 k e
    · have := h.chg.size; omega
theorem TuS.up (h : TuS w0 w H c1 c2 D1 K1 D2 K2 N) {N' : Nat} (hN : N ≤ N') : TuS w0 w H c1 c2 D1 K1 D2 K2 N' := by
  obtain ⟨F1, F2, l1, l2, KL, vG, vW, vR, a1, a2, a3, a4, a5, a6, a7, a8, a9, b1⟩ := h.st
  exact ⟨⟨F1, F2, l1, l2, KL, vG, vW, vR, a1, a2, a3, a4, a5, by omega, by omega, by omega, a9, b1⟩, h.chg⟩
/-- All lists at once. -/
theorem TuS.alone (h : TuS w0 w H c1 c2 D1 K1 D2 K2 N) (hN : N ≤ 400000) :
    Calls Try.prog 40 #[.pointer (some ⟨H, 0, none⟩)] w fun e w' => e = .returned (.bool true) ∧ (∃ F1 l1, Pair w' F1 c1 D1 K1 l1 ∧ l1.length ≤ N) ∧ (∃ F2 l2, Pair w' F2 c2 D2 K2 l2 ∧ l2.length ≤ N) ∧ Below w0.heap.size w0 w' := by
  obtain ⟨F1, F2, l1, l2, KL, vG, vW, vR, a1, a2, a3, a4, a5, a6, a7, a8, a9, b1⟩ := h.st
  refine (alone_any b1 a9 (by omega) h.chg.size (fun k hk => hk.elim (a1.lt k) (a2.lt k))).mono fun e w' hh => ?_
  obtain ⟨he, hc⟩ := hh
  exact ⟨he, ⟨F1, l1, a1.chg hc (fun k hk e => e.2 (.inl hk)), a6⟩, ⟨F2, l2, a2.chg hc (fun k hk e => e.2 (.inr hk)), a7⟩, h.chg.trans (hc.to_below h.chg.size fun k e => e.1)⟩
end
end Go.Proofs.Ytfjpmoigpnmeoaa
