/-
  DetectMutual, walked.
-/
import Derived.Test.YtfjpmoigpnmeoaaDMutM
import Derived.StillTailTactics
namespace Go.Proofs.Ytfjpmoigpnmeoaa
open Go.ChangeShapes Go.WideShapes Go.ChangeAt Go.RowKit
theorem info_btl : (Try.prog.info? 52).map (fun i => (i.zero, i.size, i.bytes)) = some (some (.slice none 0 0), 1, 24) := by kernel_rfl
theorem info_boo : (Try.prog.info? 4).map (fun i => (i.zero, i.size, i.bytes)) = some (some (.bool false), 1, 1) := by kernel_rfl
theorem make_told (W : World) : Sem.run Try.prog (Instr.makeSlice 47 (.int .i64 2) (.int .i64 2)) W = .ok (.slice (some ⟨W.heap.size, 0, none⟩) 2 2) (W.alloc (.cells #[.slice none 0 0, .slice none 0 0] 52)) := by
  obtain ⟨i0, hi0, hz0, hz1, hz2⟩ := info_parts info_btl
  have hmk := run_make_rowN (P := Try.prog) 47 52 i0 (.slice none 0 0) Try.underlying47 hi0 hz0 .i64 .i64 2 2 (by omega) (by rw [hz2]; omega) (by omega) W
  rw [hz1] at hmk
  have e : madeCells #[Value.slice none 0 0] 2 = #[.slice none 0 0, .slice none 0 0] := by rw [made_eq]; rfl
  rw [← e]
  exact hmk
theorem make_said (W : World) : Sem.run Try.prog (Instr.makeSlice 48 (.int .i64 2) (.int .i64 2)) W = .ok (.slice (some ⟨W.heap.size, 0, none⟩) 2 2) (W.alloc (.cells #[.bool false, .bool false] 4)) := by
  obtain ⟨i0, hi0, hz0, hz1, hz2⟩ := info_parts info_boo
  have hmk := run_make_rowN (P := Try.prog) 48 4 i0 (.bool false) Try.underlying48 hi0 hz0 .i64 .i64 2 2 (by omega) (by rw [hz2]; omega) (by omega) W
  rw [hz1] at hmk
  have e : madeCells #[Value.bool false] 2 = #[.bool false, .bool false] := by rw [made_eq]; rfl
  rw [← e]
  exact hmk
/-- The steps of a talk in memory. -/
def Says (w : World) (B : Nat) (A : Option Addr) (n : Nat) : Prop := 0 < n → ∃ b off, A = some ⟨b, off, none⟩ ∧ b < B ∧ ∀ k, k < n → ∃ kd sd bt : Int, w.cell? ⟨b, off + k * 3, none⟩ = some (.int .i64 kd) ∧ w.cell? ⟨b, off + k * 3 + 1, none⟩ = some (.int .i64 sd) ∧ w.cell? ⟨b, off + k * 3 + 2, none⟩ = some (.int .i64 bt) ∧ -9223372036854775808 ≤ bt ∧ bt ≤ 9223372036854775807
theorem Says.below {w w' : World} {B : Nat} {A : Option Addr} {n : Nat} (h : Says w B A n) (hb : Below B w w') : Says w' B A n := fun hn => by
  obtain ⟨b, off, e, hlt, hk⟩ := h hn
  refine ⟨b, off, e, hlt, fun k hk' => ?_⟩
  obtain ⟨kd, sd, bt, c0, c1, c2, hbt⟩ := hk k hk'
  exact ⟨kd, sd, bt, (hb.cell (p := ⟨b, _, none⟩) hlt).trans c0, (hb.cell (p := ⟨b, _, none⟩) hlt).trans c1, (hb.cell (p := ⟨b, _, none⟩) hlt).trans c2, hbt⟩
theorem Fit.Say {H : Type} {enc : TypeId × Value → H} {W : World} {cs : List Value} {d : DataW H} (h : Fit enc Try.prog W 50 cs d) :
    ∃ (x0 : Int) (x1 : Int) (x2 : Int), cs = [.int .i64 x0, .int .i64 x1, .int .i64 x2] ∧ -9223372036854775808 ≤ x0 ∧ x0 ≤ 9223372036854775807 ∧ -9223372036854775808 ≤ x1 ∧ x1 ≤ 9223372036854775807 ∧ -9223372036854775808 ≤ x2 ∧ x2 ≤ 9223372036854775807 := by
  have hl := Fit.structLen Try.underlying50 h (by kernel_rfl : Try.prog.cellsOf 50 = 3)
  match cs, hl, h with
  | [c0, c1, c2], _, h =>
  obtain ⟨df_0, f_0⟩ : ∃ di, Fit enc Try.prog W 3 [c0] di := Fit.fld (T := 3) (o := 0) (z := 1) Try.underlying50 h 0 rfl rfl rfl (by kernel_rfl)
  obtain ⟨x0, e0, b0, t0⟩ := f_0.i64 Try.underlying3
  obtain rfl : c0 = .int .i64 x0 := (List.cons.inj e0).1
  obtain ⟨df_1, f_1⟩ : ∃ di, Fit enc Try.prog W 3 [c1] di := Fit.fld (T := 3) (o := 1) (z := 1) Try.underlying50 h 1 rfl rfl rfl (by kernel_rfl)
  obtain ⟨x1, e1, b1, t1⟩ := f_1.i64 Try.underlying3
  obtain rfl : c1 = .int .i64 x1 := (List.cons.inj e1).1
  obtain ⟨df_2, f_2⟩ : ∃ di, Fit enc Try.prog W 3 [c2] di := Fit.fld (T := 3) (o := 2) (z := 1) Try.underlying50 h 2 rfl rfl rfl (by kernel_rfl)
  obtain ⟨x2, e2, b2, t2⟩ := f_2.i64 Try.underlying3
  obtain rfl : c2 = .int .i64 x2 := (List.cons.inj e2).1
  exact ⟨x0, x1, x2, rfl, b0, t0, b1, t1, b2, t2⟩
theorem Fit.Talk {H : Type} {enc : TypeId × Value → H} {W : World} {cs : List Value} {d : DataW H} (h : Fit enc Try.prog W 45 cs d) :
    ∃ (x0 : Int) (x1 : Int) (x2 : Int) (x3 : Int) (x4 : Int) (A5 : Option Addr) (n5 k5 : Nat) (x5 : List (List Value)), cs = [.int .i64 x0, .int .i64 x1, .int .i64 x2, .int .i64 x3, .int .i64 x4, .slice A5 n5 k5] ∧ -9223372036854775808 ≤ x0 ∧ x0 ≤ 9223372036854775807 ∧ -9223372036854775808 ≤ x1 ∧ x1 ≤ 9223372036854775807 ∧ -9223372036854775808 ≤ x2 ∧ x2 ≤ 9223372036854775807 ∧ -9223372036854775808 ≤ x3 ∧ x3 ≤ 9223372036854775807 ∧ -9223372036854775808 ≤ x4 ∧ x4 ≤ 9223372036854775807 ∧ n5 ≤ k5 ∧ k5 * 24 ≤ 140737488351232 ∧ x5.length = n5 ∧ Rd W W.heap.size 3 A5 n5 x5.flatten ∧ (∀ y ∈ x5, y.length = 3 ∧ ∃ d, Fit enc Try.prog W 50 y d) := by
  have hl := Fit.structLen Try.underlying45 h (by kernel_rfl : Try.prog.cellsOf 45 = 6)
  match cs, hl, h with
  | [c0, c1, c2, c3, c4, c5], _, h =>
  obtain ⟨df_0, f_0⟩ : ∃ di, Fit enc Try.prog W 3 [c0] di := Fit.fld (T := 3) (o := 0) (z := 1) Try.underlying45 h 0 rfl rfl rfl (by kernel_rfl)
  obtain ⟨x0, e0, b0, t0⟩ := f_0.i64 Try.underlying3
  obtain rfl : c0 = .int .i64 x0 := (List.cons.inj e0).1
  obtain ⟨df_1, f_1⟩ : ∃ di, Fit enc Try.prog W 3 [c1] di := Fit.fld (T := 3) (o := 1) (z := 1) Try.underlying45 h 1 rfl rfl rfl (by kernel_rfl)
  obtain ⟨x1, e1, b1, t1⟩ := f_1.i64 Try.underlying3
  obtain rfl : c1 = .int .i64 x1 := (List.cons.inj e1).1
  obtain ⟨df_2, f_2⟩ : ∃ di, Fit enc Try.prog W 3 [c2] di := Fit.fld (T := 3) (o := 2) (z := 1) Try.underlying45 h 2 rfl rfl rfl (by kernel_rfl)
  obtain ⟨x2, e2, b2, t2⟩ := f_2.i64 Try.underlying3
  obtain rfl : c2 = .int .i64 x2 := (List.cons.inj e2).1
  obtain ⟨df_3, f_3⟩ : ∃ di, Fit enc Try.prog W 3 [c3] di := Fit.fld (T := 3) (o := 3) (z := 1) Try.underlying45 h 3 rfl rfl rfl (by kernel_rfl)
  obtain ⟨x3, e3, b3, t3⟩ := f_3.i64 Try.underlying3
  obtain rfl : c3 = .int .i64 x3 := (List.cons.inj e3).1
  obtain ⟨df_4, f_4⟩ : ∃ di, Fit enc Try.prog W 3 [c4] di := Fit.fld (T := 3) (o := 4) (z := 1) Try.underlying45 h 4 rfl rfl rfl (by kernel_rfl)
  obtain ⟨x4, e4, b4, t4⟩ := f_4.i64 Try.underlying3
  obtain rfl : c4 = .int .i64 x4 := (List.cons.inj e4).1
  obtain ⟨df_5, f_5⟩ : ∃ di, Fit enc Try.prog W 43 [c5] di := Fit.fld (T := 43) (o := 5) (z := 1) Try.underlying45 h 5 rfl rfl rfl (by kernel_rfl)
  obtain ⟨A5, n5, k5, x5, e5, p5, q5, l5, r5, s5⟩ := f_5.rows Try.underlying43 (by kernel_rfl : Try.prog.cellsOf 50 = 3) (by kernel_rfl : Try.prog.bytesOf 50 = 24) (by omega)
  obtain rfl : c5 = .slice A5 n5 k5 := (List.cons.inj e5).1
  exact ⟨x0, x1, x2, x3, x4, A5, n5, k5, x5, rfl, b0, t0, b1, t1, b2, t2, b3, t3, b4, t4, p5, q5, l5, r5, s5⟩
theorem says_open {H : Type} {enc : TypeId × Value → H} {W : World} {Av : Option Addr} {n : Nat} {es : List (List Value)} (hl : es.length = n) (hr : Rd W W.heap.size 3 Av n es.flatten) (hes : ∀ y ∈ es, y.length = 3 ∧ ∃ d, Fit enc Try.prog W 50 y d) : Says W W.heap.size Av n := fun hn => by
  obtain ⟨b, off, e, hlt, hc⟩ := hr.at_ hn
  refine ⟨b, off, e, hlt, fun k hk => ?_⟩
  obtain ⟨y, hy⟩ : ∃ y, es[k]? = some y := ⟨_, List.getElem?_eq_getElem (by omega)⟩
  obtain ⟨h3, d, hd⟩ := hes y (List.mem_of_getElem? hy)
  obtain ⟨x0, x1, x2, hcs, b0, t0, b1, t1, b2, t2⟩ := Fit.Say hd
  have hall := flat_at (z := 3) (es := es) (fun x hx => (hes x hx).1) k
  have hg := fun (j : Nat) (u : Value) (hj : j < 3) (hu : y[j]? = some u) => hc (k * 3 + j) u ((hall j hj).trans (by rw [hy]; exact hu))
  have a0 := hg 0 (.int .i64 x0) (by omega) (by rw [hcs]; rfl)
  have a1 := hg 1 (.int .i64 x1) (by omega) (by rw [hcs]; rfl)
  have a2 := hg 2 (.int .i64 x2) (by omega) (by rw [hcs]; rfl)
  rw [← Nat.add_assoc] at a1 a2
  exact ⟨x0, x1, x2, a0, a1, a2, b2, t2⟩
def cfM (x0 x1 x2 x3 x4 : Int) (m : Nat) : Cfg := ⟨2, m, if m = 0 then x0 else x1, x2, x3, x4⟩
theorem cfM_ok0 {x0 x1 x2 x3 x4 : Int} (h0 : NewOk 2 0 x0 x2 x3 x4) : (cfM x0 x1 x2 x3 x4 0).Ok :=
  ⟨show (1 : Nat) ≤ 2 by omega, show (2 : Nat) ≤ 16 by omega, show (0 : Nat) < 2 by omega, h0.2.2.1.1, h0.2.2.1.2, h0.2.2.2.1.1, h0.2.2.2.1.2, h0.2.2.2.2.1.1, h0.2.2.2.2.1.2, h0.2.2.2.2.2.1, h0.2.2.2.2.2.2⟩
theorem cfM_ok1 {x0 x1 x2 x3 x4 : Int} (h1 : NewOk 2 1 x1 x2 x3 x4) : (cfM x0 x1 x2 x3 x4 1).Ok :=
  ⟨show (1 : Nat) ≤ 2 by omega, show (2 : Nat) ≤ 16 by omega, show (1 : Nat) < 2 by omega, h1.2.2.1.1, h1.2.2.1.2, h1.2.2.2.1.1, h1.2.2.2.1.2, h1.2.2.2.2.1.1, h1.2.2.2.2.1.2, h1.2.2.2.2.2.1, h1.2.2.2.2.2.2⟩
theorem cfM_two {x0 x1 x2 x3 x4 : Int} (h0 : NewOk 2 0 x0 x2 x3 x4) (h1 : NewOk 2 1 x1 x2 x3 x4) : TwoC (cfM x0 x1 x2 x3 x4) := by
  refine ⟨fun m hm => ?_, fun m _ => rfl, fun m _ => rfl⟩
  rcases two_cases hm with rfl | rfl
  · exact cfM_ok0 h0
  · exact cfM_ok1 h1
/-- The law's state behind N steps. -/
structure MuS (w0 w : World) (lo hi I P T S E : Nat) (F : Nat → Nat → Prop) (D : Nat → Nat) (c : Nat → Cfg) (s : Mst) (N : Nat) : Prop where
  l : MuL w0 w lo hi F D c s.d N
  r : ∃ v L, MuR w lo hi I P T S c D v L s.said ∧ ∀ m, m < 2 → s.told m = (L m).map fun b => (b.tick, b.hs)
  i : MI c s N
  e : Blk w E 50 #[.int .i64 1, .int .i64 0, .int .i64 0, .int .i64 2, .int .i64 1, .int .i64 (-1), .int .i64 1, .int .i64 1, .int .i64 0, .int .i64 2, .int .i64 0, .int .i64 (-1), .int .i64 1, .int .i64 0, .int .i64 0, .int .i64 2, .int .i64 1, .int .i64 (-1), .int .i64 1, .int .i64 1, .int .i64 0, .int .i64 2, .int .i64 0, .int .i64 (-1)]
  eh : hi ≤ E
  n : ∀ m, (s.told m).length ≤ N
theorem MuS.below {w0 w : World} {lo hi I P T S E : Nat} {F : Nat → Nat → Prop} {D : Nat → Nat} {c : Nat → Cfg} {s : Mst} {N : Nat} (h : MuS w0 w lo hi I P T S E F D c s N) : Below w0.heap.size w0 w := (h.l.live 0 (by omega)).below
theorem MuS.over {w0 w w' : World} {lo hi I P T S E : Nat} {F : Nat → Nat → Prop} {D : Nat → Nat} {c : Nat → Cfg} {s : Mst} {N : Nat} (h : MuS w0 w lo hi I P T S E F D c s N) (hb : Below w.heap.size w w') : MuS w0 w' lo hi I P T S E F D c s N := by
  obtain ⟨v, L, h1, h2⟩ := h.r
  exact ⟨h.l.over hb, ⟨v, L, h1.over hb, h2⟩, h.i, h.e.over hb, h.eh, h.n⟩
theorem says_end {w : World} {E : Nat} (h : Blk w E 50 #[.int .i64 1, .int .i64 0, .int .i64 0, .int .i64 2, .int .i64 1, .int .i64 (-1), .int .i64 1, .int .i64 1, .int .i64 0, .int .i64 2, .int .i64 0, .int .i64 (-1), .int .i64 1, .int .i64 0, .int .i64 0, .int .i64 2, .int .i64 1, .int .i64 (-1), .int .i64 1, .int .i64 1, .int .i64 0, .int .i64 2, .int .i64 0, .int .i64 (-1)]) {q : Nat} (hq : q < 8) :
    ∃ kd sd bt : Int, w.cell? ⟨E, q * 3, none⟩ = some (.int .i64 kd) ∧ w.cell? ⟨E, q * 3 + 1, none⟩ = some (.int .i64 sd) ∧ w.cell? ⟨E, q * 3 + 2, none⟩ = some (.int .i64 bt) ∧ (-1 ≤ bt ∧ bt ≤ 0) ∧ endsL[q]? = some (kd, (Go.bits .and .i64 sd 1).toNat, 1 - (Go.bits .and .i64 sd 1).toNat, bt) := by
  have e0 : (Go.bits .and .i64 0 1).toNat = 0 := by decide
  have e1 : (Go.bits .and .i64 1 1).toNat = 1 := by decide
  have hq' : q = 0 ∨ q = 1 ∨ q = 2 ∨ q = 3 ∨ q = 4 ∨ q = 5 ∨ q = 6 ∨ q = 7 := by omega
  rcases hq' with rfl | rfl | rfl | rfl | rfl | rfl | rfl | rfl
  · exact ⟨1, 0, 0, h.cell 0, h.cell 1, h.cell 2, by omega, by rw [e0]; rfl⟩
  · exact ⟨2, 1, -1, h.cell 3, h.cell 4, h.cell 5, by omega, by rw [e1]; rfl⟩
  · exact ⟨1, 1, 0, h.cell 6, h.cell 7, h.cell 8, by omega, by rw [e1]; rfl⟩
  · exact ⟨2, 0, -1, h.cell 9, h.cell 10, h.cell 11, by omega, by rw [e0]; rfl⟩
  · exact ⟨1, 0, 0, h.cell 12, h.cell 13, h.cell 14, by omega, by rw [e0]; rfl⟩
  · exact ⟨2, 1, -1, h.cell 15, h.cell 16, h.cell 17, by omega, by rw [e1]; rfl⟩
  · exact ⟨1, 1, 0, h.cell 18, h.cell 19, h.cell 20, by omega, by rw [e1]; rfl⟩
  · exact ⟨2, 0, -1, h.cell 21, h.cell 22, h.cell 23, by omega, by rw [e0]; rfl⟩
set_option maxRecDepth 100000 in
set_option maxHeartbeats 12800000 in
theorem DetectMutual_core (x0 x1 x2 x3 x4 : Int) (A5 : Option Addr) (n5 k5 : Nat) (w : World) (hle : n5 ≤ k5) (hcap : k5 * 24 ≤ 140737488351232) (HO : Hid (Says w w.heap.size A5 n5)) :
    Calls Try.prog 4 #[.agg #[.int .i64 x0, .int .i64 x1, .int .i64 x2, .int .i64 x3, .int .i64 x4, .slice A5 n5 k5]] w fun e w' => e = .returned (.bool true) ∧ Below w.heap.size w w' := by
  obtain ⟨i0, hi0, hz0, hz1, hz2⟩ := info_parts info_bt
  have hb0 := one_box' w (.cells #[.int .i64 x0, .int .i64 x1, .int .i64 x2, .int .i64 x3, .int .i64 x4, .slice A5 n5 k5] 45)
  have hS := Blk.new w 45 #[.int .i64 x0, .int .i64 x1, .int .i64 x2, .int .i64 x3, .int .i64 x4, .slice A5 n5 k5]
  obtain ⟨w0, hw0⟩ : ∃ w0, w0 = w.alloc (.cells #[.int .i64 x0, .int .i64 x1, .int .i64 x2, .int .i64 x3, .int .i64 x4, .slice A5 n5 k5] 45) := ⟨_, rfl⟩
  rw [← hw0] at hb0 hS
  have HW0 := Lib.hid hw0
  have hb1 := one_box' w0 (.cells #[.int .i64 x0, .int .i64 x1] 3)
  have hI := Blk.new w0 3 #[.int .i64 x0, .int .i64 x1]
  obtain ⟨w1, hw1⟩ : ∃ w1, w1 = w0.alloc (.cells #[.int .i64 x0, .int .i64 x1] 3) := ⟨_, rfl⟩
  rw [← hw1] at hb1 hI
  have HW1 := Lib.hid hw1
  have hs0 := hb0.size
  have hs01 : w0.heap.size < w1.heap.size := hI.lt
  have HB1 := Lib.hid (hb0.trans (hb1.mono hs0))
  have HOP : Hid (Says w1 w.heap.size A5 n5) := Lib.hid (HO.out.below HB1.out)
  have HBX := Lib.hid fun (W : World) (hb : Below w1.heap.size w1 W) => (hS.over hb1).over hb
  have HIX := Lib.hid hI
  have r0 : w0.cell? ⟨w.heap.size, 0, none⟩ = some (.int .i64 x0) := hS.cell 0
  have r1 : w0.cell? ⟨w.heap.size, 1, none⟩ = some (.int .i64 x1) := hS.cell 1
  have hSS := hS.over hb1
  have q0 : w1.cell? ⟨w.heap.size, 0, none⟩ = some (.int .i64 x0) := hSS.cell 0
  have q1 : w1.cell? ⟨w.heap.size, 1, none⟩ = some (.int .i64 x1) := hSS.cell 1
  have q2 : w1.cell? ⟨w.heap.size, 2, none⟩ = some (.int .i64 x2) := hSS.cell 2
  have q3 : w1.cell? ⟨w.heap.size, 3, none⟩ = some (.int .i64 x3) := hSS.cell 3
  have q4 : w1.cell? ⟨w.heap.size, 4, none⟩ = some (.int .i64 x4) := hSS.cell 4
  clear hw0 hw1 hS hSS hI hb0 hb1
  go_enter Try.func4, Try.ntmps4
  go_upto_region 1 with fail
  rw [← HW0.out]
  go_upto_region 2 with fail
  rw [← HW1.out]
  clear r0 r1
  by_cases okA : NewOk 2 0 x0 x2 x3 x4
  · by_cases okB : NewOk 2 1 x1 x2 x3 x4
    · have HC := Lib.hid (cfM_two okA okB)
      have HA : Hid (Calls Try.prog 10 #[.agg #[.int .i64 2, .int .i64 0, .int .i64 x0, .int .i64 x2, .int .i64 x3, .int .i64 x4, .slice none 0 0]] w1 (BeganP w1 (cfM x0 x1 x2 x3 x4 0) 0)) := Lib.hid (began_yes (HC.out.ok 0 (by omega)) none 0 0 w1.heap.size (Nat.le_refl _) (by omega) (Nat.le_refl _) (Lib.hid fun h => absurd h (by omega)))
      have HB : Hid (∀ W, Calls Try.prog 10 #[.agg #[.int .i64 2, .int .i64 1, .int .i64 x1, .int .i64 x2, .int .i64 x3, .int .i64 x4, .slice none 0 0]] W (BeganP W (cfM x0 x1 x2 x3 x4 1) 0)) := Lib.hid fun W => began_yes (HC.out.ok 1 (by omega)) none 0 0 W.heap.size (Nat.le_refl _) (by omega) (Nat.le_refl _) (Lib.hid fun h => absurd h (by omega))
      clear okA okB
      go_wp2_with fail
      refine HA.out.mono ?_
      rintro _ w2 ⟨D0, F0, d0, m0, rfl, hL0, hm0, _, hd0⟩
      obtain rfl : m0 = 0 := by omega
      obtain rfl := hd0 rfl
      have hX2 := HBX.out w2 hL0.below
      have p1 : w2.cell? ⟨w.heap.size, 1, none⟩ = some (.int .i64 x1) := hX2.cell 1
      have p2 : w2.cell? ⟨w.heap.size, 2, none⟩ = some (.int .i64 x2) := hX2.cell 2
      have p3 : w2.cell? ⟨w.heap.size, 3, none⟩ = some (.int .i64 x3) := hX2.cell 3
      have p4 : w2.cell? ⟨w.heap.size, 4, none⟩ = some (.int .i64 x4) := hX2.cell 4
      have HL0 := Lib.hid hL0
      clear hX2 hL0 hm0 hd0 q0 q1 q2 q3 q4
      go_wp2_with fail
      refine (HB.out w2).mono ?_
      rintro _ w3 ⟨D1, F1, d1, m1, rfl, hL1, hm1, _, hd1⟩
      obtain rfl : m1 = 0 := by omega
      obtain rfl := hd1 rfl
      have hL0' := HL0.out.over hL1.below
      have hF0 : ∀ k, F0 k → w1.heap.size ≤ k ∧ k < w2.heap.size := fun k hk => ⟨HL0.out.fw k hk, HL0.out.p.1 k hk⟩
      have hF1 : ∀ k, F1 k → w2.heap.size ≤ k ∧ k < w3.heap.size := fun k hk => ⟨hL1.fw k hk, hL1.p.1 k hk⟩
      have hb12 := HL0.out.below
      have hb23 := hL1.below
      have hL1' : Live w1 w3 F1 (cfM x0 x1 x2 x3 x4 1) D1 (DSt.new (cfM x0 x1 x2 x3 x4 1)) 0 := ⟨hL1.p, hL1.ok, fun k hk => Nat.le_trans hb12.size (hF1 k hk).1, hb12.trans (hb23.mono hb12.size)⟩
      have HML : Hid (MuL w1 w3 w1.heap.size w3.heap.size (fun m => if m = 0 then F0 else F1) (fun m => if m = 0 then D0 else D1) (cfM x0 x1 x2 x3 x4) (Mst.new (cfM x0 x1 x2 x3 x4)).d 0) := by
        refine Lib.hid ⟨fun m hm => ?_, fun m hm k hk => ?_, fun k h0 h1 => ?_, ⟨Nat.le_refl _, Nat.le_trans hb12.size hb23.size⟩⟩
        · rcases two_cases hm with rfl | rfl
          · exact hL0'
          · exact hL1'
        · have := hb12.size
          have := hb23.size
          rcases two_cases hm with rfl | rfl
          · have := hF0 k hk; omega
          · have := hF1 k hk; omega
        · have := hF0 k h0
          have := hF1 k h1
          omega
      have HB13 := Lib.hid (hb12.trans (hb23.mono hb12.size))
      clear hL0' hL1' hF0 hF1 hb12 hb23 hL1 hm1 hd1 HL0 HA HB p1 p2 p3 p4
      obtain ⟨w4, hw4⟩ : ∃ w4, w4 = w3.alloc (.cells #[.pointer (some ⟨D0, 0, none⟩), .pointer (some ⟨D1, 0, none⟩)] 28) := ⟨_, rfl⟩
      obtain ⟨w5, hw5⟩ : ∃ w5, w5 = w4.alloc (.cells #[.slice none 0 0, .slice none 0 0] 52) := ⟨_, rfl⟩
      obtain ⟨w6, hw6⟩ : ∃ w6, w6 = w5.alloc (.cells #[.bool false, .bool false] 4) := ⟨_, rfl⟩
      have hb4 : Below w3.heap.size w3 w4 := by rw [hw4]; exact one_box' w3 _
      have hb5 : Below w4.heap.size w4 w5 := by rw [hw5]; exact one_box' w4 _
      have hb6 : Below w5.heap.size w5 w6 := by rw [hw6]; exact one_box' w5 _
      have hP := Blk.new w3 28 #[.pointer (some ⟨D0, 0, none⟩), .pointer (some ⟨D1, 0, none⟩)]
      have hT := Blk.new w4 52 #[.slice none 0 0, .slice none 0 0]
      have hSd := Blk.new w5 4 #[.bool false, .bool false]
      rw [← hw4] at hP
      rw [← hw5] at hT
      rw [← hw6] at hSd
      have hb36 : Below w3.heap.size w3 w6 := (hb4.trans (hb5.mono hb4.size)).trans (hb6.mono (Nat.le_trans hb4.size hb5.size))
      have HMR : Hid (MuR w6 w1.heap.size w3.heap.size w0.heap.size w3.heap.size w4.heap.size w5.heap.size (cfM x0 x1 x2 x3 x4) (fun m => if m = 0 then D0 else D1) (fun _ => .slice none 0 0) (fun _ => []) (fun _ => false)) := by
        refine Lib.hid ⟨(HIX.out.over HB13.out).over hb36, (hP.over hb5).over hb6, hT.over hb6, hSd, fun m _ => ⟨by simp [rowsB], .inl ⟨rfl, rfl⟩⟩, fun g e => by simp [Value.ownBlock] at e, fun m _ b hb => absurd hb (by simp), ⟨hs01, Nat.le_refl _, hb4.size, Nat.le_trans hb4.size hb5.size⟩⟩
      have hs4 : w4.heap.size = w3.heap.size + 1 := by rw [hw4]; simp
      have hs5 : w5.heap.size = w3.heap.size + 1 + 1 := by rw [hw5]; simp [hs4]
      rw [hs4, hs5] at HMR
      clear hs4 hs5
      have HML6 := Lib.hid (HML.out.over hb36)
      have HX6 := Lib.hid (HBX.out w6 (HB13.out.trans (hb36.mono HB13.out.size)))
      have hmk1 := make_told
      have hmk2 := make_said
      have HW4 := Lib.hid hw4
      have HW5 := Lib.hid hw5
      have HW6 := Lib.hid hw6
      have HB36 := Lib.hid hb36
      clear hw4 hw5 hw6 hb4 hb5 hb6 hP hT hSd hb36
      go_upto_region 10 with fail
      rw [← HW4.out]
      rw [← HW5.out]
      rw [← HW6.out]
      clear hmk1 hmk2
      have s5 : w6.cell? ⟨w.heap.size, 5, none⟩ = some (.slice A5 n5 k5) := HX6.out.cell 5
      obtain ⟨c, hc⟩ : ∃ c, c = cfM x0 x1 x2 x3 x4 := ⟨_, rfl⟩
      obtain ⟨F, hF⟩ : ∃ F : Nat → Nat → Prop, F = fun m => if m = 0 then F0 else F1 := ⟨_, rfl⟩
      obtain ⟨D, hD⟩ : ∃ D : Nat → Nat, D = fun m => if m = 0 then D0 else D1 := ⟨_, rfl⟩
      have HC0 : Hid ((c 0).inc = x0 ∧ (c 1).inc = x1) := Lib.hid (by rw [hc]; exact ⟨rfl, rfl⟩)
      rw [← hc, ← hF, ← hD] at HML6
      rw [← hc, ← hD] at HMR
      rw [← hc] at HC
      have e0 : D 0 = D0 := by rw [hD]; rfl
      have e1 : D 1 = D1 := by rw [hD]; rfl
      have HB16 := Lib.hid (HB13.out.trans (HB36.out.mono HB13.out.size))
      have HXW : Hid (∀ W, Below w1.heap.size w1 W → W.cell? ⟨w.heap.size, 0, none⟩ = some (.int .i64 x0) ∧ W.cell? ⟨w.heap.size, 1, none⟩ = some (.int .i64 x1)) := Lib.hid fun W hW => ⟨(HBX.out W hW).cell 0, (HBX.out W hW).cell 1⟩
      clear hc hF hD HML HX6 HIX HBX
      subst e0 e1
      go_upto_if 71 with fail
      go_cut [12] from 273 to 273 (fun st wc => ∃ n cap, st = .slice A5 n cap ∧ n ≤ 200 ∧ n ≤ n5 ∧ Hid (wc = w6))
      case first =>
        by_cases h200 : (200 : Int) < (n5 : Int)
        · have hk2 : (200 : Int) ≤ (k5 : Int) := by omega
          go_wp2_with fail
          go_meet
          exact ⟨200, k5, rfl, by omega, by omega, Lib.hid rfl⟩
        · go_wp2_with fail
          go_meet
          exact ⟨n5, k5, rfl, by omega, by omega, Lib.hid rfl⟩
      case rest =>
        obtain ⟨n, cap, rfl, hn2, hn5, HWC⟩ := hcut
        rw [HWC.out]
        clear HWC s5
        have hb7 := one_box' w6 (.cells #[.int .i64 1, .int .i64 0, .int .i64 0, .int .i64 2, .int .i64 1, .int .i64 (-1), .int .i64 1, .int .i64 1, .int .i64 0, .int .i64 2, .int .i64 0, .int .i64 (-1), .int .i64 1, .int .i64 0, .int .i64 0, .int .i64 2, .int .i64 1, .int .i64 (-1), .int .i64 1, .int .i64 1, .int .i64 0, .int .i64 2, .int .i64 0, .int .i64 (-1)] 50)
        have hE := Blk.new w6 50 #[.int .i64 1, .int .i64 0, .int .i64 0, .int .i64 2, .int .i64 1, .int .i64 (-1), .int .i64 1, .int .i64 1, .int .i64 0, .int .i64 2, .int .i64 0, .int .i64 (-1), .int .i64 1, .int .i64 0, .int .i64 0, .int .i64 2, .int .i64 1, .int .i64 (-1), .int .i64 1, .int .i64 1, .int .i64 0, .int .i64 2, .int .i64 0, .int .i64 (-1)]
        obtain ⟨w7, hw7⟩ : ∃ w7, w7 = w6.alloc (.cells #[.int .i64 1, .int .i64 0, .int .i64 0, .int .i64 2, .int .i64 1, .int .i64 (-1), .int .i64 1, .int .i64 1, .int .i64 0, .int .i64 2, .int .i64 0, .int .i64 (-1), .int .i64 1, .int .i64 0, .int .i64 0, .int .i64 2, .int .i64 1, .int .i64 (-1), .int .i64 1, .int .i64 1, .int .i64 0, .int .i64 2, .int .i64 0, .int .i64 (-1)] 50) := ⟨_, rfl⟩
        rw [← hw7] at hb7 hE
        have HW7 := Lib.hid hw7
        have HMS : Hid (MuS w1 w7 w1.heap.size w3.heap.size w0.heap.size w3.heap.size (w3.heap.size + 1) (w3.heap.size + 1 + 1) w6.heap.size F D c (Mst.new c) 0) := Lib.hid ⟨HML6.out.over hb7, ⟨_, _, HMR.out.over hb7, fun m _ => rfl⟩, MI.new HC.out 0, hE, HB36.out.size, fun m => by simp [Mst.new]⟩
        have HB7 := Lib.hid (HB16.out.trans (hb7.mono HB16.out.size))
        clear hw7 hb7 hE HML6 HMR
        go_upto_region 14 with fail
        rw [← HW7.out]
        clear HW4 HW5 HW6 HW7 HW0 HW1
        have HLO : Hid (w.heap.size < w1.heap.size) := Lib.hid (by omega)
        generalize w0.heap.size = I at *
        have HLE : Hid (w.heap.size ≤ w1.heap.size) := Lib.hid (by omega)
        obtain ⟨lo, hlo⟩ : ∃ lo, lo = w1.heap.size := ⟨_, rfl⟩
        rw [← hlo] at HMS
        clear hlo
        generalize w3.heap.size + 1 = T at *
        generalize T + 1 = S at *
        generalize w3.heap.size = hi at *
        generalize w6.heap.size = E at *
        go_wp2_with fail
        go_loopw [11, 14, 15, 16, 17, 18, 19, 20] (fun lf i _ _ _ _ _ _ wr => ∃ (j : Nat) (s : Mst), j ≤ n + 8 ∧ i = .int .i64 (j : Int) ∧ lf = .bool s.left ∧ Hid (MuS w1 wr lo hi I hi T S E F D c s j) ∧ Hid (n ≤ j → ∃ s0, MI c s0 n ∧ (∀ m, (s0.told m).length ≤ n) ∧ s = endS c s0 (j - n)) ) (fun _ i _ _ _ _ _ _ _ => n + 8 - (intOf i).toNat)
        case atStart => exact ⟨0, _, by omega, rfl, rfl, HMS, Lib.hid fun h => ⟨Mst.new c, MI.new HC.out n, fun m => by simp [Mst.new], by rw [show 0 - n = 0 by omega]; rfl⟩⟩
        case round =>
          clear HMS
          obtain ⟨j, s, hj, rfl, rfl, HS, HEN⟩ := hrel
          have hwr : IntKind.i64.wrap ((n : Int) + 8) = (n : Int) + 8 := IntWalk.i64_in _ (by omega)
          by_cases hlt : j < n + 8
          · have hI : (j : Int) < (n : Int) + 8 := by omega
            have hXz := Blk.new wr 50 #[.int .i64 0, .int .i64 0, .int .i64 0]
            have hbx := one_box' wr (.cells #[.int .i64 0, .int .i64 0, .int .i64 0] 50)
            obtain ⟨wx, hwx⟩ : ∃ wx, wx = wr.alloc (.cells #[.int .i64 0, .int .i64 0, .int .i64 0] 50) := ⟨_, rfl⟩
            rw [← hwx] at hXz hbx
            have HWX := Lib.hid hwx
            have HBX := Lib.hid hbx
            have HXZ := Lib.hid hXz
            clear hwx hbx hXz
            go_upto_if 95 with fail
            rw [← HWX.out]
            go_cut [] from 256 to 256 (fun wc => ∃ kd sd bt : Int, Hid (Blk wc wr.heap.size 50 #[.int .i64 kd, .int .i64 sd, .int .i64 bt]) ∧ Hid (MuS w1 wc lo hi I hi T S E F D c s j) ∧ Hid (n ≤ j → endsL[j - n]? = some (kd, (Go.bits .and .i64 sd 1).toNat, 1 - (Go.bits .and .i64 sd 1).toNat, bt)) ∧ (-9223372036854775808 ≤ bt ∧ bt ≤ 9223372036854775807))
            case first =>
              have f0 := HXZ.out.frozen 0
              have f1 := HXZ.out.frozen 1
              have f2 := HXZ.out.frozen 2
              have z0 := HXZ.out.cell 0
              have z1 := HXZ.out.cell 1
              have z2 := HXZ.out.cell 2
              have HSET : Hid (∀ a b e : Int, Blk (((wx.setCell ⟨wr.heap.size, 0, none⟩ (.int .i64 a)).setCell ⟨wr.heap.size, 1, none⟩ (.int .i64 b)).setCell ⟨wr.heap.size, 2, none⟩ (.int .i64 e)) wr.heap.size 50 #[.int .i64 a, .int .i64 b, .int .i64 e] ∧ Below wr.heap.size wr (((wx.setCell ⟨wr.heap.size, 0, none⟩ (.int .i64 a)).setCell ⟨wr.heap.size, 1, none⟩ (.int .i64 b)).setCell ⟨wr.heap.size, 2, none⟩ (.int .i64 e))) := Lib.hid fun a b e =>
                ⟨((HXZ.out.set_ 0 _).set_ 1 _).set_ 2 _, ((HBX.out.setCell (p := ⟨wr.heap.size, 0, none⟩) (Nat.le_refl _) _).setCell (p := ⟨wr.heap.size, 1, none⟩) (Nat.le_refl _) _).setCell (p := ⟨wr.heap.size, 2, none⟩) (Nat.le_refl _) _⟩
              by_cases hjn : j < n
              · have hjI : (j : Int) < (n : Int) := by omega
                obtain ⟨b, off, rfl, hbl, hsy⟩ := (HOP.out.below ((HS.out.below.trans (HBX.out.mono HS.out.below.size)).mono (by have := HLO.out; have := HLE.out; omega))) (by omega)
                obtain ⟨kd, sd, bt, o0, o1, o2, hbt⟩ := hsy j (by omega)
                obtain ⟨wz, hwz⟩ : ∃ wz, wz = ((wx.setCell ⟨wr.heap.size, 0, none⟩ (.int .i64 kd)).setCell ⟨wr.heap.size, 1, none⟩ (.int .i64 sd)).setCell ⟨wr.heap.size, 2, none⟩ (.int .i64 bt) := ⟨_, rfl⟩
                have HZ := HSET.out kd sd bt
                rw [← hwz] at HZ
                have HZ := Lib.hid HZ
                have HWZ := Lib.hid hwz
                clear hwz hsy
                go_wp2_with fail
                rw [← HWZ.out]
                go_meet
                exact ⟨kd, sd, bt, Lib.hid HZ.out.1, Lib.hid (HS.out.over HZ.out.2), Lib.hid fun h => (by omega), hbt⟩
              · have hjI : decide ((j : Int) < (n : Int)) = false := by simp; omega
                obtain ⟨q, hq⟩ : ∃ q, q = j - n := ⟨_, rfl⟩
                have hwq : IntKind.i64.wrap ((j : Int) - (n : Int)) = (q : Int) := by rw [IntWalk.i64_in _ (by omega)]; omega
                have hq8 : (q : Int) < 8 := by omega
                obtain ⟨kd, sd, bt, o0, o1, o2, hbt, hel⟩ := says_end (HS.out.e.over HBX.out) (show q < 8 by omega)
                obtain ⟨wz, hwz⟩ : ∃ wz, wz = ((wx.setCell ⟨wr.heap.size, 0, none⟩ (.int .i64 kd)).setCell ⟨wr.heap.size, 1, none⟩ (.int .i64 sd)).setCell ⟨wr.heap.size, 2, none⟩ (.int .i64 bt) := ⟨_, rfl⟩
                have HZ := HSET.out kd sd bt
                rw [← hwz] at HZ
                have HZ := Lib.hid HZ
                have HWZ := Lib.hid hwz
                have HEL : Hid (endsL[j - n]? = some (kd, (Go.bits .and .i64 sd 1).toNat, 1 - (Go.bits .and .i64 sd 1).toNat, bt)) := Lib.hid (by rw [← hq]; exact hel)
                clear hwz hq hel
                go_wp2_with fail
                rw [← HWZ.out]
                go_meet
                exact ⟨kd, sd, bt, Lib.hid HZ.out.1, Lib.hid (HS.out.over HZ.out.2), Lib.hid fun _ => HEL.out, by omega, by omega⟩
            case rest =>
              obtain ⟨kd, sd, bt, HXB, HS, HEL, hbt⟩ := hcut
              clear HWX HBX HXZ
              obtain ⟨wy, HWY⟩ : ∃ wy, Hid (wc = wy) := ⟨_, Lib.hid rfl⟩
              rw [HWY.out] at HXB HS ⊢
              clear HWY
              have v0 : wy.cell? ⟨wr.heap.size, 0, none⟩ = some (.int .i64 kd) := HXB.out.cell 0
              have v1 : wy.cell? ⟨wr.heap.size, 1, none⟩ = some (.int .i64 sd) := HXB.out.cell 1
              have HXB2 : Hid (∀ W, Below wy.heap.size wy W → W.cell? ⟨wr.heap.size, 2, none⟩ = some (.int .i64 bt)) := Lib.hid fun W hW => (HXB.out.over hW).cell 2
              have v2 := HXB2.out wy (Below.refl _ _)
              have hand := and1_bd sd
              obtain ⟨m, hmb⟩ : ∃ m : Nat, Go.bits .and .i64 sd 1 = (m : Int) := ⟨(Go.bits .and .i64 sd 1).toNat, by omega⟩
              have hm : m < 2 := by omega
              obtain ⟨y, hy⟩ : ∃ y, y = 1 - m := ⟨_, rfl⟩
              have hyw : IntKind.i64.wrap (1 - (m : Int)) = (y : Int) := by rw [IntWalk.i64_in _ (by omega)]; omega
              have HO : Hid (Opp m y) := Lib.hid (by unfold Opp; omega)
              have HEL2 : Hid (n ≤ j → endsL[j - n]? = some (kd, m, y, bt)) := Lib.hid fun h => by
                have := HEL.out h
                rw [hmb, Int.toNat_natCast, ← hy] at this
                exact this
              have hy2 : y < 2 := by omega
              have hmI : (m : Int) < 2 := by omega
              have hyI : (y : Int) < 2 := by omega
              clear hand hy HEL HXB
              generalize wr.heap.size = X at *
              go_upto_region 23 with fail
              clear hmb hyw
              obtain ⟨v, L, hMR, hTL⟩ := HS.out.r
              have HMR := Lib.hid hMR
              have HTL := Lib.hid hTL
              have p0 : wy.cell? ⟨hi, m, none⟩ = some (.pointer (some ⟨D m, 0, none⟩)) := hMR.dsC hm
              clear hMR hTL
              go_cut [113] from 256 to 256 (fun t wc => t = .int .i64 kd ∧ Hid (wc = wy))
              case first =>
                go_wp2_with fail
                go_meet
                exact ⟨rfl, Lib.hid rfl⟩
              case rest =>
              obtain ⟨rfl, HWC⟩ := hcut
              rw [HWC.out]
              clear HWC v0 v1
              apply_assumption
              go_cut [11, 18, 19] from 256 to 256 (fun lf _ _ wc => ∃ s', lf = .bool s'.left ∧ Hid (s' = stepS c s kd m y bt) ∧ Hid (MuS w1 wc lo hi I hi T S E F D c s' (j + 1)) )
              case first =>
                by_cases k1 : kd = 1
                · have e1 : (kd == 1) = true := by simpa using k1
                  have HK : Hid (stepS c s kd m y bt = sayT c s m y) := Lib.hid (by unfold stepS; rw [if_pos k1])
                  clear k1
                  as_aux_lemma =>
                    have HTK := Lib.hid (PTick_x (HC.out.ok m hm) (HS.out.l.live m hm))
                    go_upto_region 26 with (go_at_call 16; refine HTK.out.mono ?_; rintro _ wt ⟨rfl, ht, hct⟩; have HT1 := Lib.hid (And.intro ht hct); clear ht hct)
                    have hLT := HS.out.l.step hm HT1.out.1 HT1.out.2
                    have hRT := HMR.out.chg HT1.out.2 (HS.out.l.rng m hm)
                    have hET := HS.out.e.chg HT1.out.2 (fun e => by have := HS.out.l.rng m hm _ e; have := HS.out.eh; omega)
                    obtain ⟨H, hH⟩ : ∃ H, H = hearsL (c m) (tickD (s.d m)) := ⟨_, rfl⟩
                    have hH2 : H.length = 2 := by rw [hH]; simp [hearsL, HC.out.n m hm]
                    obtain ⟨tk, htk⟩ : ∃ tk, tk = (tickD (s.d m)).tick := ⟨_, rfl⟩
                    have HBT : Hid (Calls Try.prog 23 #[.pointer (some ⟨D m, 0, none⟩)] wt fun e w' => ∃ A cap, e = .returned (.agg #[.int .i64 tk, .slice A 2 cap]) ∧ w'.ownsRow wt.heap.size 3 1 (.slice A 2 cap) 2 (ivs H) ∧ Below wt.heap.size wt w') := Lib.hid ((PBeat_x (HC.out.ok m hm) HT1.out.1).mono fun e w' hh => by
                      obtain ⟨A, cap, h1, h2, h3⟩ := hh
                      rw [← htk, ← hH, hH2] at h1
                      rw [← hH, hH2] at h2
                      exact ⟨A, cap, h1, h2, h3⟩)
                    have HHH := Lib.hid hH
                    have HTT := Lib.hid htk
                    have p1 : wt.cell? ⟨hi, m, none⟩ = some (.pointer (some ⟨D m, 0, none⟩)) := hRT.dsC hm
                    have HLT := Lib.hid hLT
                    have HRT := Lib.hid hRT
                    have HET := Lib.hid hET
                    clear hLT hRT hET hH htk HTK p0
                    go_upto_region 27 with (go_at_call 23; refine HBT.out.mono ?_; rintro _ wb ⟨Ab, cb, rfl, hob, hbb⟩; have HOB := Lib.hid hob; have HBB := Lib.hid hbb; clear hob hbb)
                    have hbq := one_box' wb (.cells #[.int .i64 tk, .slice Ab 2 cb] 37)
                    have hQ := Blk.new wb 37 #[.int .i64 tk, .slice Ab 2 cb]
                    obtain ⟨wq, hwq⟩ : ∃ wq, wq = wb.alloc (.cells #[.int .i64 tk, .slice Ab 2 cb] 37) := ⟨_, rfl⟩
                    rw [← hwq] at hbq hQ
                    rw [← hwq]
                    have hbtq : Below wt.heap.size wt wq := HBB.out.trans (hbq.mono HBB.out.size)
                    obtain ⟨wd, hwd⟩ : ∃ wd, wd = wq.drew := ⟨_, rfl⟩
                    have hbd : Below wq.heap.size wq wd := by rw [hwd]; exact below_drewN (Below.refl _ _) 1
                    have hbtd := hbtq.trans (hbd.mono hbtq.size)
                    have hRD := HRT.out.over hbtd
                    have HLD := Lib.hid (HLT.out.over hbtd)
                    have HED := Lib.hid (HET.out.over hbtd)
                    have HQD := Lib.hid (hQ.over hbd)
                    have HOD := Lib.hid (own_over (own_over HOB.out hbq) hbd)
                    have HVX : Hid (∀ g, (v m).ownBlock = some g → g < wb.heap.size) := Lib.hid fun g hg => (own_block_lt ((HRT.out.over HBB.out).own m hm) hg).1
                    obtain ⟨Av, cv, hvm, hcv, _⟩ := own_shape (hRD.own m hm)
                    have HVM := Lib.hid hvm
                    have HRD := Lib.hid hRD
                    have HTC : Hid (∀ W, Below wd.heap.size wd W → W.cell? ⟨T, m, none⟩ = some (.slice Av (L m).length cv)) := Lib.hid fun W hW => by
                      have := (HRD.out.over hW).toldC hm
                      rw [HVM.out] at this
                      exact this
                    have HSX : Hid (∀ W, Below wd.heap.size wd W → W.cell? ⟨wb.heap.size, 0, none⟩ = some (.int .i64 tk) ∧ W.cell? ⟨wb.heap.size, 1, none⟩ = some (.slice Ab 2 cb)) := Lib.hid fun W hW => ⟨(HQD.out.over hW).cell 0, (HQD.out.over hW).cell 1⟩
                    have HCP : Hid (Calls Try.prog 24 #[.slice Ab 2 cb] wd fun e w' => ∃ g, e = .returned (.slice (some ⟨g, 0, none⟩) 2 2) ∧ wd.heap.size ≤ g ∧ Blk w' g 3 (rg 2 fun j => .int .i64 (H.getD j 0)) ∧ Below wd.heap.size wd w') := Lib.hid ((copied_any Ab 2 cb H wd (Rd.of_own HOD.out) (by omega)).mono fun e w' hh => by
                      obtain ⟨g, h1, h2, h3, h4⟩ := hh
                      rw [hH2] at h1 h3
                      exact ⟨g, h1, h2, h3, h4⟩)
                    have HLL : Hid ((L m).length + 1 ≤ 1048576) := Lib.hid (by
                      have h1 := HS.out.n m
                      rw [HTL.out m hm, List.length_map] at h1
                      omega)
                    have HWD := Lib.hid hwd
                    have hhd : hi ≤ wd.heap.size := Nat.le_trans (Nat.le_of_lt HMR.out.ds.lt) (Nat.le_trans HT1.out.2.size hbtd.size)
                    clear hbq hQ hwq hbtq hbd hbtd hRD hvm hwd HBT p1
                    go_cut [] from 256 to 256 (fun wc => ∃ v' L', Hid (MuR wc lo hi I hi T S c D v' L' s.said) ∧ Hid (∀ i, i < 2 → (L' i).map (fun b => (b.tick, b.hs)) = updN s.told m (s.told m ++ [(tk, H)]) i) ∧ Hid (MuL w1 wc lo hi F D c (updN s.d m (tickD (s.d m))) j) ∧ Hid (Blk wc wb.heap.size 37 #[.int .i64 tk, .slice Ab 2 cb]) ∧ Hid (wc.ownsRow wt.heap.size 3 1 (.slice Ab 2 cb) 2 (ivs H)) ∧ Hid (Blk wc E 50 #[.int .i64 1, .int .i64 0, .int .i64 0, .int .i64 2, .int .i64 1, .int .i64 (-1), .int .i64 1, .int .i64 1, .int .i64 0, .int .i64 2, .int .i64 0, .int .i64 (-1), .int .i64 1, .int .i64 0, .int .i64 0, .int .i64 2, .int .i64 1, .int .i64 (-1), .int .i64 1, .int .i64 1, .int .i64 0, .int .i64 2, .int .i64 0, .int .i64 (-1)]))
                    case first =>
                      refine wp_region_held_drew (S := fun W => W.cell? ⟨wb.heap.size, 0, none⟩ = some (.int .i64 tk) ∧ W.cell? ⟨wb.heap.size, 1, none⟩ = some (.slice Ab 2 cb)) (by kernel_rfl) (by rw [← HWD.out]; exact HSX.out _ (Below.refl _ _)) (fun hsw => ?_)
                      rw [← HWD.out] at hsw ⊢
                      refine wpAnyH_take (i := 0) (oi := ?oi0a) (v := ?v0a) ?hi0a (by kernel_rfl) (by kernel_rfl) (by kernel_rfl) ?hq0a ?hy0a (by assumption) ?rest0a
                      case hi0a => (simp only [List.getElem?_toArray, List.getElem?_cons_zero]; rfl)
                      case hy0a => (refine Or.inl ⟨by rfl, ?_⟩; intro w hSw; (try dsimp only at hSw); go_simp; try with_reducible rfl)
                      case hq0a => exact fun _ _ _ h => h
                      try simp only [Act.put, List.setIfInBounds_toArray, List.set_cons_zero, List.set_cons_succ]
                      refine wpAnyH_take (i := 1) (oi := ?oi1a) (v := ?v1a) ?hi1a (by kernel_rfl) (by kernel_rfl) (by kernel_rfl) ?hq1a ?hy1a (by assumption) ?rest1a
                      case hi1a => (simp only [List.getElem?_toArray, List.getElem?_cons_zero, List.getElem?_cons_succ]; rfl)
                      case hy1a => (refine Or.inl ⟨by rfl, ?_⟩; intro w hSw; (try dsimp only at hSw); go_simp; try with_reducible rfl)
                      case hq1a => exact fun _ _ _ h => h
                      try simp only [Act.put, List.setIfInBounds_toArray, List.set_cons_zero, List.set_cons_succ]
                      refine wpAnyH_take (i := 2) (oi := ?oi2a) (v := ?v2a) ?hi2a (by kernel_rfl) (by kernel_rfl) (by kernel_rfl) ?hq2a ?hy2a (by assumption) ?rest2a
                      case hi2a => (simp only [List.getElem?_toArray, List.getElem?_cons_zero, List.getElem?_cons_succ]; rfl)
                      case hy2a => (refine Or.inl ⟨by rfl, ?_⟩; intro w hSw; (try dsimp only at hSw); go_simp; try with_reducible rfl)
                      case hq2a => exact fun _ _ _ h => h
                      try simp only [Act.put, List.setIfInBounds_toArray, List.set_cons_zero, List.set_cons_succ]
                      refine wpAnyH_take (i := 3) (oi := ?oi3a) (v := ?v3a) ?hi3a (by kernel_rfl) (by kernel_rfl) (by kernel_rfl) ?hq3a ?hy3a (by assumption) ?rest3a
                      case hi3a => (simp only [List.getElem?_toArray, List.getElem?_cons_zero, List.getElem?_cons_succ]; rfl)
                      case hy3a => (refine Or.inl ⟨by rfl, ?_⟩; intro w hSw; (try dsimp only at hSw); go_simp; try with_reducible rfl)
                      case hq3a => exact fun _ _ _ h => h
                      try simp only [Act.put, List.setIfInBounds_toArray, List.set_cons_zero, List.set_cons_succ]
                      refine wpAnyH_take (i := 4) (oi := ?oi4a) (v := ?v4a) ?hi4a (by kernel_rfl) (by kernel_rfl) (by kernel_rfl) ?hq4a ?hy4a (by assumption) ?rest4a
                      case hi4a => (simp only [List.getElem?_toArray, List.getElem?_cons_zero, List.getElem?_cons_succ]; rfl)
                      case hy4a => (refine Or.inl ⟨by rfl, ?_⟩; intro w hSw; (try dsimp only at hSw); go_simp; try with_reducible rfl)
                      case hq4a => exact fun _ _ _ h => h
                      try simp only [Act.put, List.setIfInBounds_toArray, List.set_cons_zero, List.set_cons_succ]
                      refine wpAnyH_take (i := 6) (oi := ?oi6a) (v := ?v6a) ?hi6a (by kernel_rfl) (by kernel_rfl) (by kernel_rfl) ?hq6a ?hy6a (by assumption) ?rest6a
                      case hi6a => (simp only [List.getElem?_toArray, List.getElem?_cons_zero, List.getElem?_cons_succ]; rfl)
                      case hy6a => (refine Or.inl ⟨by rfl, ?_⟩; intro w hSw; (try dsimp only at hSw); go_simp; try with_reducible rfl)
                      case hq6a => exact fun _ _ _ h => h
                      try simp only [Act.put, List.setIfInBounds_toArray, List.set_cons_zero, List.set_cons_succ]
                      refine wpAnyH_take (i := 7) (oi := ?oi7a) (v := ?v7a) ?hi7a (by kernel_rfl) (by kernel_rfl) (by kernel_rfl) ?hq7a ?hy7a (by assumption) ?rest7a
                      case hi7a => (simp only [List.getElem?_toArray, List.getElem?_cons_zero, List.getElem?_cons_succ]; rfl)
                      case hy7a => (refine Or.inl ⟨by rfl, ?_⟩; intro w hSw; (try dsimp only at hSw); go_simp; try with_reducible rfl)
                      case hq7a => exact fun _ _ _ h => h
                      try simp only [Act.put, List.setIfInBounds_toArray, List.set_cons_zero, List.set_cons_succ]
                      refine wpAnyH_take (i := 8) (oi := ?oi8a) (v := ?v8a) ?hi8a (by kernel_rfl) (by kernel_rfl) (by kernel_rfl) ?hq8a ?hy8a (by assumption) ?rest8a
                      case hi8a => (simp only [List.getElem?_toArray, List.getElem?_cons_zero, List.getElem?_cons_succ]; rfl)
                      case hy8a => (refine Or.inl ⟨by rfl, ?_⟩; intro w hSw; (try dsimp only at hSw); go_simp; try with_reducible rfl)
                      case hq8a => exact fun _ _ _ h => h
                      try simp only [Act.put, List.setIfInBounds_toArray, List.set_cons_zero, List.set_cons_succ]
                      refine wpAnyH_take (i := 9) (oi := ?oi9a) (v := ?v9a) ?hi9a (by kernel_rfl) (by kernel_rfl) (by kernel_rfl) ?hq9a ?hy9a (by assumption) ?rest9a
                      case hi9a => (simp only [List.getElem?_toArray, List.getElem?_cons_zero, List.getElem?_cons_succ]; rfl)
                      case hy9a => (refine Or.inl ⟨by rfl, ?_⟩; intro w hSw; (try dsimp only at hSw); go_simp; try with_reducible rfl)
                      case hq9a => exact fun _ _ _ h => h
                      try simp only [Act.put, List.setIfInBounds_toArray, List.set_cons_zero, List.set_cons_succ]
                      refine wpAnyH_ready (rs := [5, 10]) (by kernel_rfl) (by simp) ?_
                      refine AllReadyH.cons (o := ?o5q1) ?ho5q1 (fun K hK => ?st5q1) ?mo5q1
                      case ho5q1 => (simp only [List.getElem?_toArray, List.getElem?_cons_zero, List.getElem?_cons_succ]; rfl)
                      · skip
                        have hc5 := HTC.out (wd) (Below.refl _ _)
                        go_simp
                        refine hK.out _ _ (HSX.out _ (Below.refl _ _)) (fun _ => ?_)
                        clear hc5
                        clear hK K
                        try simp only [Act.put, List.setIfInBounds_toArray, List.set_cons_zero, List.set_cons_succ]
                        refine wpAnyH_ready (rs := [10]) (by kernel_rfl) (by simp) ?_
                        refine AllReadyH.cons (o := ?o10q2) ?ho10q2 (fun K hK => ?st10q2) ?mo10q2
                        case ho10q2 => (simp only [List.getElem?_toArray, List.getElem?_cons_zero, List.getElem?_cons_succ]; rfl)
                        · skip
                          go_simp
                          refine HCP.out.mono ?_
                          rintro _ wg ⟨gg, rfl, hgg, hBg, hbg⟩
                          have HGG := Lib.hid (And.intro hgg (And.intro hBg hbg))
                          have hwg1 : Below wd.heap.size wd wg := hbg
                          have HBG1 := Lib.hid hwg1
                          have HBG2 := Lib.hid fun o => hwg1.trans ((one_box' wg o).mono hwg1.size)
                          clear hgg hBg hbg hwg1
                          go_simp
                          refine hK.out _ _ (HSX.out _ HBG1.out) (fun _ => ?_)
                          clear hK K
                          try simp only [Act.put, List.setIfInBounds_toArray, List.set_cons_zero, List.set_cons_succ]
                          refine wpAnyH_take (i := 11) (oi := ?oi11q2) (v := ?v11q2) ?hi11q2 (by kernel_rfl) (by kernel_rfl) (by kernel_rfl) ?hq11q2 ?hy11q2 (by assumption) ?rest11q2
                          case hi11q2 => (simp only [List.getElem?_toArray, List.getElem?_cons_zero, List.getElem?_cons_succ]; rfl)
                          case hy11q2 => (refine Or.inl ⟨by rfl, ?_⟩; intro w hSw; (try dsimp only at hSw); go_simp; try with_reducible rfl)
                          case hq11q2 => exact fun _ _ _ h => h
                          try simp only [Act.put, List.setIfInBounds_toArray, List.set_cons_zero, List.set_cons_succ]
                          refine wpAnyH_ready (rs := [12]) (by kernel_rfl) (by simp) ?_
                          refine AllReadyH.cons (o := ?o12q3) ?ho12q3 (fun K hK => ?st12q3) ?mo12q3
                          case ho12q3 => (simp only [List.getElem?_toArray, List.getElem?_cons_zero, List.getElem?_cons_succ]; rfl)
                          · skip
                            go_simp
                            refine hK.out _ _ (HSX.out _ (HBG2.out _)) (fun _ => ?_)
                            clear hK K
                            try simp only [Act.put, List.setIfInBounds_toArray, List.set_cons_zero, List.set_cons_succ]
                            refine wpAnyH_ready (rs := [13]) (by kernel_rfl) (by simp) ?_
                            refine AllReadyH.cons (o := ?o13q4) ?ho13q4 (fun K hK => ?st13q4) ?mo13q4
                            case ho13q4 => (simp only [List.getElem?_toArray, List.getElem?_cons_zero, List.getElem?_cons_succ]; rfl)
                            · skip
                              have HRG := Lib.hid (HRD.out.over HBG1.out)
                              have hog := HRG.out.own m hm
                              rw [HVM.out] at hog
                              have HOG := Lib.hid hog
                              clear hog
                              refine step_appN wg (by rfl) _ _ 52 (by rfl) hi 37 i0 _ 2 32 u_bts hi0 hz0 hz1 hz2 rfl (by decide) (.slice Av (L m).length cv) (L m).length (rowsB (L m)) (by rfl) HOG.out #[.int .i64 tk, .slice (some ⟨gg, 0, none⟩) 2 2] rfl (by rfl) (bt_one ⟨tk, H, gg⟩) (by have := HLL.out; simp only [maxLen]; omega) (by have := HLL.out; omega) (Nat.le_trans hhd HBG1.out.size) ?_
                              intro u6 w6 ho6 _ hg6 hat6
                              have happ := HRG.out.app hm (b := ⟨tk, H, gg⟩) ⟨HGG.out.2.1, Nat.le_trans hhd HGG.out.1, hH2⟩ ho6 (by rw [HVM.out]; exact Chg.of_grown hg6) (by
                                rw [HVM.out]
                                exact fun g hg => hat6.elim (fun e => .inl (e ▸ hg)) (fun e => .inr (by rw [e] at hg; injection hg with hg; omega)))
                              obtain ⟨q6, d6, hR6, hC6, hk6⟩ := happ
                              rw [HVM.out] at d6
                              obtain ⟨A7, c7, rfl, _, _⟩ := own_shape ho6
                              have hX6 := hk6 _ _ _ (HQD.out.over HBG1.out) (fun e => by have := HVX.out _ e; omega) (by decide)
                              have hE6 := (hk6 _ _ _ (HED.out.over HBG1.out) (fun e => by
                                obtain ⟨_, _, cur, hB2⟩ := own_block_lt (HRG.out.own m hm) e
                                exact (HED.out.over HBG1.out).ne_ hB2 (by decide) rfl) (by decide)).2
                              have HS6 : Hid (w6.cell? ⟨wb.heap.size, 0, none⟩ = some (.int .i64 tk) ∧ w6.cell? ⟨wb.heap.size, 1, none⟩ = some (.slice Ab 2 cb)) := Lib.hid ⟨hX6.1.cell 0, hX6.1.cell 1⟩
                              have hS7 := And.intro (hX6.2.cell 0) (hX6.2.cell 1)
                              have HR6 := Lib.hid hR6
                              have HL6 := Lib.hid ((HLD.out.over HBG1.out).chg hC6)
                              have HX6 := Lib.hid hX6.2
                              have HE6 := Lib.hid hE6
                              have HOW6 : Hid ((w6.setCell ⟨T, m, none⟩ (.slice A7 ((L m).length + 1) c7)).ownsRow wt.heap.size 3 1 (.slice Ab 2 cb) 2 (ivs H)) := by
                                rcases (own_over HOD.out HBG1.out).2 with ⟨h1, h2⟩ | ⟨g, cap', cur, h1, h2, h3, h4⟩
                                · omega
                                · have h5 := (hk6 _ _ _ h3 (fun e => by
                                    obtain ⟨_, _, cur2, hB2⟩ := own_block_lt (HRG.out.own m hm) e
                                    exact (show Blk wg g 3 cur from h3).ne_ hB2 (by decide) rfl) (by decide)).2
                                  exact Lib.hid ⟨HOD.out.1, .inr ⟨g, cap', cur, h1, h2, h5, h4⟩⟩
                              have HTL6 : Hid (∀ i, i < 2 → ((updN L m (L m ++ [⟨tk, H, gg⟩])) i).map (fun b => (b.tick, b.hs)) = updN s.told m (s.told m ++ [(tk, H)]) i) := Lib.hid fun i hi' => by
                                by_cases e : i = m
                                · subst e
                                  rw [updN_same, updN_same, List.map_append, HTL.out i hi']
                                  rfl
                                · rw [updN_other _ _ e, updN_other _ _ e, HTL.out i hi']
                              have HS7 := Lib.hid hS7
                              clear ho6 hg6 hat6 hR6 hC6 hk6 hX6 hE6 hS7
                              refine hK.out _ _ HS6.out (fun _ => ?_)
                              clear hK K
                              try simp only [Act.put, List.setIfInBounds_toArray, List.set_cons_zero, List.set_cons_succ]
                              refine wpAnyH_take (i := 14) (oi := ?oi14q4) (v := ?v14q4) ?hi14q4 (by kernel_rfl) (by kernel_rfl) (by kernel_rfl) ?hq14q4 ?hy14q4 (by assumption) ?rest14q4
                              case hi14q4 => (simp only [List.getElem?_toArray, List.getElem?_cons_zero, List.getElem?_cons_succ]; rfl)
                              case hy14q4 => (refine Or.inl ⟨by rfl, ?_⟩; intro w hSw; (try dsimp only at hSw); go_simp; try with_reducible rfl)
                              case hq14q4 => exact fun _ _ _ h => h
                              try simp only [Act.put, List.setIfInBounds_toArray, List.set_cons_zero, List.set_cons_succ]
                              refine wpAnyH_ready (rs := [15]) (by kernel_rfl) (by simp) ?_
                              refine AllReadyH.cons (o := ?o15q4) ?ho15q4 (fun K hK => ?st15q4) ?mo15q4
                              case ho15q4 => (simp only [List.getElem?_toArray, List.getElem?_cons_zero, List.getElem?_cons_succ]; rfl)
                              · skip
                                go_simp
                                refine hK.out _ _ HS7.out (fun _ => ?_)
                                clear hK K
                                refine wpAnyH_done (by kernel_rfl) ?_ _
                                go_wp2_with fail
                                go_meet
                                exact ⟨_, _, HR6, HTL6, HL6, HX6, HOW6, HE6⟩
                              exact AllReadyH.nil
                            exact AllReadyH.nil
                          exact AllReadyH.nil
                        exact AllReadyH.nil
                      refine AllReadyH.cons (o := ?o10q5) ?ho10q5 (fun K hK => ?st10q5) ?mo10q5
                      case ho10q5 => (simp only [List.getElem?_toArray, List.getElem?_cons_zero, List.getElem?_cons_succ]; rfl)
                      · skip
                        go_simp
                        refine HCP.out.mono ?_
                        rintro _ wg ⟨gg, rfl, hgg, hBg, hbg⟩
                        have HGG := Lib.hid (And.intro hgg (And.intro hBg hbg))
                        have hwg1 : Below wd.heap.size wd wg := hbg
                        have HBG1 := Lib.hid hwg1
                        have HBG2 := Lib.hid fun o => hwg1.trans ((one_box' wg o).mono hwg1.size)
                        clear hgg hBg hbg hwg1
                        go_simp
                        refine hK.out _ _ (HSX.out _ HBG1.out) (fun _ => ?_)
                        clear hK K
                        try simp only [Act.put, List.setIfInBounds_toArray, List.set_cons_zero, List.set_cons_succ]
                        refine wpAnyH_take (i := 11) (oi := ?oi11q5) (v := ?v11q5) ?hi11q5 (by kernel_rfl) (by kernel_rfl) (by kernel_rfl) ?hq11q5 ?hy11q5 (by assumption) ?rest11q5
                        case hi11q5 => (simp only [List.getElem?_toArray, List.getElem?_cons_zero, List.getElem?_cons_succ]; rfl)
                        case hy11q5 => (refine Or.inl ⟨by rfl, ?_⟩; intro w hSw; (try dsimp only at hSw); go_simp; try with_reducible rfl)
                        case hq11q5 => exact fun _ _ _ h => h
                        try simp only [Act.put, List.setIfInBounds_toArray, List.set_cons_zero, List.set_cons_succ]
                        refine wpAnyH_ready (rs := [5, 12]) (by kernel_rfl) (by simp) ?_
                        refine AllReadyH.cons (o := ?o5q6) ?ho5q6 (fun K hK => ?st5q6) ?mo5q6
                        case ho5q6 => (simp only [List.getElem?_toArray, List.getElem?_cons_zero, List.getElem?_cons_succ]; rfl)
                        · skip
                          have hc5 := HTC.out (wg) HBG1.out
                          go_simp
                          refine hK.out _ _ (HSX.out _ HBG1.out) (fun _ => ?_)
                          clear hc5
                          clear hK K
                          try simp only [Act.put, List.setIfInBounds_toArray, List.set_cons_zero, List.set_cons_succ]
                          refine wpAnyH_ready (rs := [12]) (by kernel_rfl) (by simp) ?_
                          refine AllReadyH.cons (o := ?o12q7) ?ho12q7 (fun K hK => ?st12q7) ?mo12q7
                          case ho12q7 => (simp only [List.getElem?_toArray, List.getElem?_cons_zero, List.getElem?_cons_succ]; rfl)
                          · skip
                            go_simp
                            refine hK.out _ _ (HSX.out _ (HBG2.out _)) (fun _ => ?_)
                            clear hK K
                            try simp only [Act.put, List.setIfInBounds_toArray, List.set_cons_zero, List.set_cons_succ]
                            refine wpAnyH_ready (rs := [13]) (by kernel_rfl) (by simp) ?_
                            refine AllReadyH.cons (o := ?o13q8) ?ho13q8 (fun K hK => ?st13q8) ?mo13q8
                            case ho13q8 => (simp only [List.getElem?_toArray, List.getElem?_cons_zero, List.getElem?_cons_succ]; rfl)
                            · skip
                              have HRG := Lib.hid (HRD.out.over HBG1.out)
                              have hog := HRG.out.own m hm
                              rw [HVM.out] at hog
                              have HOG := Lib.hid hog
                              clear hog
                              refine step_appN wg (by rfl) _ _ 52 (by rfl) hi 37 i0 _ 2 32 u_bts hi0 hz0 hz1 hz2 rfl (by decide) (.slice Av (L m).length cv) (L m).length (rowsB (L m)) (by rfl) HOG.out #[.int .i64 tk, .slice (some ⟨gg, 0, none⟩) 2 2] rfl (by rfl) (bt_one ⟨tk, H, gg⟩) (by have := HLL.out; simp only [maxLen]; omega) (by have := HLL.out; omega) (Nat.le_trans hhd HBG1.out.size) ?_
                              intro u6 w6 ho6 _ hg6 hat6
                              have happ := HRG.out.app hm (b := ⟨tk, H, gg⟩) ⟨HGG.out.2.1, Nat.le_trans hhd HGG.out.1, hH2⟩ ho6 (by rw [HVM.out]; exact Chg.of_grown hg6) (by
                                rw [HVM.out]
                                exact fun g hg => hat6.elim (fun e => .inl (e ▸ hg)) (fun e => .inr (by rw [e] at hg; injection hg with hg; omega)))
                              obtain ⟨q6, d6, hR6, hC6, hk6⟩ := happ
                              rw [HVM.out] at d6
                              obtain ⟨A7, c7, rfl, _, _⟩ := own_shape ho6
                              have hX6 := hk6 _ _ _ (HQD.out.over HBG1.out) (fun e => by have := HVX.out _ e; omega) (by decide)
                              have hE6 := (hk6 _ _ _ (HED.out.over HBG1.out) (fun e => by
                                obtain ⟨_, _, cur, hB2⟩ := own_block_lt (HRG.out.own m hm) e
                                exact (HED.out.over HBG1.out).ne_ hB2 (by decide) rfl) (by decide)).2
                              have HS6 : Hid (w6.cell? ⟨wb.heap.size, 0, none⟩ = some (.int .i64 tk) ∧ w6.cell? ⟨wb.heap.size, 1, none⟩ = some (.slice Ab 2 cb)) := Lib.hid ⟨hX6.1.cell 0, hX6.1.cell 1⟩
                              have hS7 := And.intro (hX6.2.cell 0) (hX6.2.cell 1)
                              have HR6 := Lib.hid hR6
                              have HL6 := Lib.hid ((HLD.out.over HBG1.out).chg hC6)
                              have HX6 := Lib.hid hX6.2
                              have HE6 := Lib.hid hE6
                              have HOW6 : Hid ((w6.setCell ⟨T, m, none⟩ (.slice A7 ((L m).length + 1) c7)).ownsRow wt.heap.size 3 1 (.slice Ab 2 cb) 2 (ivs H)) := by
                                rcases (own_over HOD.out HBG1.out).2 with ⟨h1, h2⟩ | ⟨g, cap', cur, h1, h2, h3, h4⟩
                                · omega
                                · have h5 := (hk6 _ _ _ h3 (fun e => by
                                    obtain ⟨_, _, cur2, hB2⟩ := own_block_lt (HRG.out.own m hm) e
                                    exact (show Blk wg g 3 cur from h3).ne_ hB2 (by decide) rfl) (by decide)).2
                                  exact Lib.hid ⟨HOD.out.1, .inr ⟨g, cap', cur, h1, h2, h5, h4⟩⟩
                              have HTL6 : Hid (∀ i, i < 2 → ((updN L m (L m ++ [⟨tk, H, gg⟩])) i).map (fun b => (b.tick, b.hs)) = updN s.told m (s.told m ++ [(tk, H)]) i) := Lib.hid fun i hi' => by
                                by_cases e : i = m
                                · subst e
                                  rw [updN_same, updN_same, List.map_append, HTL.out i hi']
                                  rfl
                                · rw [updN_other _ _ e, updN_other _ _ e, HTL.out i hi']
                              have HS7 := Lib.hid hS7
                              clear ho6 hg6 hat6 hR6 hC6 hk6 hX6 hE6 hS7
                              refine hK.out _ _ HS6.out (fun _ => ?_)
                              clear hK K
                              try simp only [Act.put, List.setIfInBounds_toArray, List.set_cons_zero, List.set_cons_succ]
                              refine wpAnyH_take (i := 14) (oi := ?oi14q8) (v := ?v14q8) ?hi14q8 (by kernel_rfl) (by kernel_rfl) (by kernel_rfl) ?hq14q8 ?hy14q8 (by assumption) ?rest14q8
                              case hi14q8 => (simp only [List.getElem?_toArray, List.getElem?_cons_zero, List.getElem?_cons_succ]; rfl)
                              case hy14q8 => (refine Or.inl ⟨by rfl, ?_⟩; intro w hSw; (try dsimp only at hSw); go_simp; try with_reducible rfl)
                              case hq14q8 => exact fun _ _ _ h => h
                              try simp only [Act.put, List.setIfInBounds_toArray, List.set_cons_zero, List.set_cons_succ]
                              refine wpAnyH_ready (rs := [15]) (by kernel_rfl) (by simp) ?_
                              refine AllReadyH.cons (o := ?o15q8) ?ho15q8 (fun K hK => ?st15q8) ?mo15q8
                              case ho15q8 => (simp only [List.getElem?_toArray, List.getElem?_cons_zero, List.getElem?_cons_succ]; rfl)
                              · skip
                                go_simp
                                refine hK.out _ _ HS7.out (fun _ => ?_)
                                clear hK K
                                refine wpAnyH_done (by kernel_rfl) ?_ _
                                go_wp2_with fail
                                go_meet
                                exact ⟨_, _, HR6, HTL6, HL6, HX6, HOW6, HE6⟩
                              exact AllReadyH.nil
                            exact AllReadyH.nil
                          exact AllReadyH.nil
                        refine AllReadyH.cons (o := ?o12q9) ?ho12q9 (fun K hK => ?st12q9) ?mo12q9
                        case ho12q9 => (simp only [List.getElem?_toArray, List.getElem?_cons_zero, List.getElem?_cons_succ]; rfl)
                        · skip
                          go_simp
                          refine hK.out _ _ (HSX.out _ (HBG2.out _)) (fun _ => ?_)
                          clear hK K
                          try simp only [Act.put, List.setIfInBounds_toArray, List.set_cons_zero, List.set_cons_succ]
                          refine wpAnyH_ready (rs := [5]) (by kernel_rfl) (by simp) ?_
                          refine AllReadyH.cons (o := ?o5q10) ?ho5q10 (fun K hK => ?st5q10) ?mo5q10
                          case ho5q10 => (simp only [List.getElem?_toArray, List.getElem?_cons_zero, List.getElem?_cons_succ]; rfl)
                          · skip
                            have hc5 := HTC.out (wg.alloc (.cells #[.int .i64 tk, .slice (some ⟨gg, 0, none⟩) 2 2] 37)) (HBG2.out _)
                            go_simp
                            refine hK.out _ _ (HSX.out _ (HBG2.out _)) (fun _ => ?_)
                            clear hc5
                            clear hK K
                            try simp only [Act.put, List.setIfInBounds_toArray, List.set_cons_zero, List.set_cons_succ]
                            refine wpAnyH_ready (rs := [13]) (by kernel_rfl) (by simp) ?_
                            refine AllReadyH.cons (o := ?o13q11) ?ho13q11 (fun K hK => ?st13q11) ?mo13q11
                            case ho13q11 => (simp only [List.getElem?_toArray, List.getElem?_cons_zero, List.getElem?_cons_succ]; rfl)
                            · skip
                              have HRG := Lib.hid (HRD.out.over HBG1.out)
                              have hog := HRG.out.own m hm
                              rw [HVM.out] at hog
                              have HOG := Lib.hid hog
                              clear hog
                              refine step_appN wg (by rfl) _ _ 52 (by rfl) hi 37 i0 _ 2 32 u_bts hi0 hz0 hz1 hz2 rfl (by decide) (.slice Av (L m).length cv) (L m).length (rowsB (L m)) (by rfl) HOG.out #[.int .i64 tk, .slice (some ⟨gg, 0, none⟩) 2 2] rfl (by rfl) (bt_one ⟨tk, H, gg⟩) (by have := HLL.out; simp only [maxLen]; omega) (by have := HLL.out; omega) (Nat.le_trans hhd HBG1.out.size) ?_
                              intro u6 w6 ho6 _ hg6 hat6
                              have happ := HRG.out.app hm (b := ⟨tk, H, gg⟩) ⟨HGG.out.2.1, Nat.le_trans hhd HGG.out.1, hH2⟩ ho6 (by rw [HVM.out]; exact Chg.of_grown hg6) (by
                                rw [HVM.out]
                                exact fun g hg => hat6.elim (fun e => .inl (e ▸ hg)) (fun e => .inr (by rw [e] at hg; injection hg with hg; omega)))
                              obtain ⟨q6, d6, hR6, hC6, hk6⟩ := happ
                              rw [HVM.out] at d6
                              obtain ⟨A7, c7, rfl, _, _⟩ := own_shape ho6
                              have hX6 := hk6 _ _ _ (HQD.out.over HBG1.out) (fun e => by have := HVX.out _ e; omega) (by decide)
                              have hE6 := (hk6 _ _ _ (HED.out.over HBG1.out) (fun e => by
                                obtain ⟨_, _, cur, hB2⟩ := own_block_lt (HRG.out.own m hm) e
                                exact (HED.out.over HBG1.out).ne_ hB2 (by decide) rfl) (by decide)).2
                              have HS6 : Hid (w6.cell? ⟨wb.heap.size, 0, none⟩ = some (.int .i64 tk) ∧ w6.cell? ⟨wb.heap.size, 1, none⟩ = some (.slice Ab 2 cb)) := Lib.hid ⟨hX6.1.cell 0, hX6.1.cell 1⟩
                              have hS7 := And.intro (hX6.2.cell 0) (hX6.2.cell 1)
                              have HR6 := Lib.hid hR6
                              have HL6 := Lib.hid ((HLD.out.over HBG1.out).chg hC6)
                              have HX6 := Lib.hid hX6.2
                              have HE6 := Lib.hid hE6
                              have HOW6 : Hid ((w6.setCell ⟨T, m, none⟩ (.slice A7 ((L m).length + 1) c7)).ownsRow wt.heap.size 3 1 (.slice Ab 2 cb) 2 (ivs H)) := by
                                rcases (own_over HOD.out HBG1.out).2 with ⟨h1, h2⟩ | ⟨g, cap', cur, h1, h2, h3, h4⟩
                                · omega
                                · have h5 := (hk6 _ _ _ h3 (fun e => by
                                    obtain ⟨_, _, cur2, hB2⟩ := own_block_lt (HRG.out.own m hm) e
                                    exact (show Blk wg g 3 cur from h3).ne_ hB2 (by decide) rfl) (by decide)).2
                                  exact Lib.hid ⟨HOD.out.1, .inr ⟨g, cap', cur, h1, h2, h5, h4⟩⟩
                              have HTL6 : Hid (∀ i, i < 2 → ((updN L m (L m ++ [⟨tk, H, gg⟩])) i).map (fun b => (b.tick, b.hs)) = updN s.told m (s.told m ++ [(tk, H)]) i) := Lib.hid fun i hi' => by
                                by_cases e : i = m
                                · subst e
                                  rw [updN_same, updN_same, List.map_append, HTL.out i hi']
                                  rfl
                                · rw [updN_other _ _ e, updN_other _ _ e, HTL.out i hi']
                              have HS7 := Lib.hid hS7
                              clear ho6 hg6 hat6 hR6 hC6 hk6 hX6 hE6 hS7
                              refine hK.out _ _ HS6.out (fun _ => ?_)
                              clear hK K
                              try simp only [Act.put, List.setIfInBounds_toArray, List.set_cons_zero, List.set_cons_succ]
                              refine wpAnyH_take (i := 14) (oi := ?oi14q11) (v := ?v14q11) ?hi14q11 (by kernel_rfl) (by kernel_rfl) (by kernel_rfl) ?hq14q11 ?hy14q11 (by assumption) ?rest14q11
                              case hi14q11 => (simp only [List.getElem?_toArray, List.getElem?_cons_zero, List.getElem?_cons_succ]; rfl)
                              case hy14q11 => (refine Or.inl ⟨by rfl, ?_⟩; intro w hSw; (try dsimp only at hSw); go_simp; try with_reducible rfl)
                              case hq14q11 => exact fun _ _ _ h => h
                              try simp only [Act.put, List.setIfInBounds_toArray, List.set_cons_zero, List.set_cons_succ]
                              refine wpAnyH_ready (rs := [15]) (by kernel_rfl) (by simp) ?_
                              refine AllReadyH.cons (o := ?o15q11) ?ho15q11 (fun K hK => ?st15q11) ?mo15q11
                              case ho15q11 => (simp only [List.getElem?_toArray, List.getElem?_cons_zero, List.getElem?_cons_succ]; rfl)
                              · skip
                                go_simp
                                refine hK.out _ _ HS7.out (fun _ => ?_)
                                clear hK K
                                refine wpAnyH_done (by kernel_rfl) ?_ _
                                go_wp2_with fail
                                go_meet
                                exact ⟨_, _, HR6, HTL6, HL6, HX6, HOW6, HE6⟩
                              exact AllReadyH.nil
                            exact AllReadyH.nil
                          exact AllReadyH.nil
                        exact AllReadyH.nil
                      exact AllReadyH.nil
                    case rest =>
                      obtain ⟨v', L', HRN, HTN, HLN, HXN, HON, HEN2⟩ := hcut
                      obtain ⟨wn, HWN⟩ : ∃ wn, Hid (wc = wn) := ⟨_, Lib.hid rfl⟩
                      rw [HWN.out] at HRN HLN HXN HON HEN2 ⊢
                      clear HWN
                      have hgy : (hearsAt (c m) (tickD (s.d m)) y) = atZ H (y : Int) := by
                        rw [HHH.out]
                        unfold atZ
                        rw [if_neg (by omega), if_neg (by rw [← HHH.out, hH2]; omega), Int.toNat_natCast, hearsL_at _ (by rw [HC.out.n m hm]; exact hy2)]
                      have HGY := Lib.hid hgy
                      clear hgy
                      obtain ⟨wd2, hwd2⟩ : ∃ wd2, wd2 = wn.drew := ⟨_, rfl⟩
                      have hbd2 : Below wn.heap.size wn wd2 := by rw [hwd2]; exact below_drewN (Below.refl _ _) 1
                      have hRD2 := HRN.out.over hbd2
                      have hXD2 := HXN.out.over hbd2
                      have hOD2 := own_over HON.out hbd2
                      have HAT := Lib.hid (at_any Ab 2 cb H (y : Int) wd2 (Rd.of_own hOD2))
                      have hsc : wd2.cell? ⟨S, m, none⟩ = some (.bool (s.said m)) := hRD2.saidC hm
                      have hsf : wd2.frozen? ⟨S, m, none⟩ = false := hRD2.sd.frozen m
                      have HSS : Hid (wd2.cell? ⟨wb.heap.size, 1, none⟩ = some (.slice Ab 2 cb) ∧ wd2.cell? ⟨I, y, none⟩ = some (.int .i64 (c y).inc)) := Lib.hid ⟨hXD2.cell 1, hRD2.incC hy2⟩
                      have HST : Hid (∀ b, (wd2.setCell ⟨S, m, none⟩ (.bool b)).cell? ⟨wb.heap.size, 1, none⟩ = some (.slice Ab 2 cb) ∧ (wd2.setCell ⟨S, m, none⟩ (.bool b)).cell? ⟨I, y, none⟩ = some (.int .i64 (c y).inc)) := Lib.hid fun b => by
                        have h1 := hXD2.far (p := ⟨S, m, none⟩) (fun e => by have h2 := hRD2.sd; rw [← show wb.heap.size = S from e] at h2; exact hXD2.ne_ h2 (by decide) rfl) (.bool b)
                        exact ⟨h1.cell 1, (hRD2.setS hm b).incC hy2⟩
                      have HFS : Hid (∀ b, b = (s.said m || (atZ H (y : Int) == (c y).inc)) → MuS w1 (wd2.setCell ⟨S, m, none⟩ (.bool b)) lo hi I hi T S E F D c (sayT c s m y) (j + 1)) := Lib.hid fun b hb => by
                        have h1 := hRD2.setS hm b
                        have hEs := (HEN2.out.over hbd2).far (p := ⟨S, m, none⟩) (fun e => by have h2 := hRD2.sd; rw [← show E = S from e] at h2; exact (HEN2.out.over hbd2).ne_ h2 (by decide) rfl) (.bool b)
                        have hcs : Chg (fun k => hi ≤ k) wd2 (wd2.setCell ⟨S, m, none⟩ (.bool b)) := (Chg.refl (fun k => hi ≤ k) wd2).setCell (p := ⟨S, m, none⟩) (.inl hRD2.at_.2.2.2) _
                        have hlen : (s.told m).length < 4611686018427387904 := by have := HS.out.n m; omega
                        refine ⟨((HLN.out.over hbd2).chg hcs).up, ⟨v', L', ?_, fun i hi' => ?_⟩, (HS.out.i.sayT HC.out HO.out hlen).up, hEs, HS.out.eh, fun i => ?_⟩
                        · rw [hb, ← HGY.out] at h1
                          rw [hb, ← HGY.out]
                          exact h1
                        · rw [HTN.out i hi', HHH.out, HTT.out]
                          rfl
                        · have h2 := stepS_len c s 1 m y 0 i
                          have h3 : stepS c s 1 m y 0 = sayT c s m y := by unfold stepS; rw [if_pos rfl]
                          rw [h3] at h2
                          have := HS.out.n i
                          omega
                      have HWD2 := Lib.hid hwd2
                      clear hwd2 hbd2 hRD2 hXD2 hOD2 HRN HTN HLN HXN HON HEN2
                      obtain ⟨sd1, hsd1⟩ : ∃ b, b = s.said m := ⟨_, rfl⟩
                      have HSD1 := Lib.hid hsd1
                      rw [← hsd1] at hsc HFS
                      clear hsd1
                      go_upto_region 28 with fail
                      refine wp_region_held_drew (S := fun W => W.cell? ⟨wb.heap.size, 1, none⟩ = some (.slice Ab 2 cb) ∧ W.cell? ⟨I, y, none⟩ = some (.int .i64 (c y).inc)) (by kernel_rfl) (by rw [← HWD2.out]; exact HSS.out) (fun hsw => ?_)
                      rw [← HWD2.out] at hsw ⊢
                      cases sd1 with
                      | true =>
                        refine wpAnyH_take (i := 0) (oi := ?oi0t) (v := ?v0t) ?hi0t (by kernel_rfl) (by kernel_rfl) (by kernel_rfl) ?hq0t ?hy0t (by assumption) ?rest0t
                        case hi0t => (simp only [List.getElem?_toArray, List.getElem?_cons_zero]; rfl)
                        case hy0t => (refine Or.inl ⟨by rfl, ?_⟩; intro w hSw; (try dsimp only at hSw); go_simp; try with_reducible rfl)
                        case hq0t => exact fun _ _ _ h => h
                        try simp only [Act.put, List.setIfInBounds_toArray, List.set_cons_zero, List.set_cons_succ]
                        refine wpAnyH_take (i := 1) (oi := ?oi1t) (v := ?v1t) ?hi1t (by kernel_rfl) (by kernel_rfl) (by kernel_rfl) ?hq1t ?hy1t (by assumption) ?rest1t
                        case hi1t => (simp only [List.getElem?_toArray, List.getElem?_cons_zero, List.getElem?_cons_succ]; rfl)
                        case hy1t => (refine Or.inl ⟨by rfl, ?_⟩; intro w hSw; (try dsimp only at hSw); go_simp; try with_reducible rfl)
                        case hq1t => exact fun _ _ _ h => h
                        try simp only [Act.put, List.setIfInBounds_toArray, List.set_cons_zero, List.set_cons_succ]
                        refine wpAnyH_take (i := 2) (oi := ?oi2t) (v := ?v2t) ?hi2t (by kernel_rfl) (by kernel_rfl) (by kernel_rfl) ?hq2t ?hy2t (by assumption) ?rest2t
                        case hi2t => (simp only [List.getElem?_toArray, List.getElem?_cons_zero, List.getElem?_cons_succ]; rfl)
                        case hy2t => (refine Or.inl ⟨by rfl, ?_⟩; intro w hSw; (try dsimp only at hSw); go_simp; try with_reducible rfl)
                        case hq2t => exact fun _ _ _ h => h
                        try simp only [Act.put, List.setIfInBounds_toArray, List.set_cons_zero, List.set_cons_succ]
                        refine wpAnyH_take (i := 3) (oi := ?oi3t) (v := ?v3t) ?hi3t (by kernel_rfl) (by kernel_rfl) (by kernel_rfl) ?hq3t ?hy3t (by assumption) ?rest3t
                        case hi3t => (simp only [List.getElem?_toArray, List.getElem?_cons_zero, List.getElem?_cons_succ]; rfl)
                        case hy3t => (refine Or.inl ⟨by rfl, ?_⟩; intro w hSw; (try dsimp only at hSw); go_simp; try with_reducible rfl)
                        case hq3t => exact fun _ _ _ h => h
                        try simp only [Act.put, List.setIfInBounds_toArray, List.set_cons_zero, List.set_cons_succ]
                        refine wpAnyH_take (i := 4) (oi := ?oi4t) (v := ?v4t) ?hi4t (by kernel_rfl) (by kernel_rfl) (by kernel_rfl) ?hq4t ?hy4t (by assumption) ?rest4t
                        case hi4t => (simp only [List.getElem?_toArray, List.getElem?_cons_zero, List.getElem?_cons_succ]; rfl)
                        case hy4t => (refine Or.inl ⟨by rfl, ?_⟩; intro w hSw; (try dsimp only at hSw); go_simp; try with_reducible rfl)
                        case hq4t => exact fun _ _ _ h => h
                        try simp only [Act.put, List.setIfInBounds_toArray, List.set_cons_zero, List.set_cons_succ]
                        refine wpAnyH_ready (rs := [5]) (by kernel_rfl) (by simp) ?_
                        refine AllReadyH.cons (o := ?o5t) ?ho5t (fun K hK => ?st5t) ?mo5t
                        case ho5t => (simp only [List.getElem?_toArray, List.getElem?_cons_zero, List.getElem?_cons_succ]; rfl)
                        · skip
                          go_simp
                          refine hK.out _ _ HSS.out (fun _ => ?_)
                          clear hK K
                          try simp only [Act.put, List.setIfInBounds_toArray, List.set_cons_zero, List.set_cons_succ]
                          refine wpAnyH_take (i := 6) (oi := ?oi6t) (v := ?v6t) ?hi6t (by kernel_rfl) (by kernel_rfl) (by kernel_rfl) ?hq6t ?hy6t (by assumption) ?rest6t
                          case hi6t => (simp only [List.getElem?_toArray, List.getElem?_cons_zero, List.getElem?_cons_succ]; rfl)
                          case hy6t => (refine Or.inl ⟨by rfl, ?_⟩; intro w hSw; (try dsimp only at hSw); go_simp; try with_reducible rfl)
                          case hq6t => exact fun _ _ _ h => h
                          try simp only [Act.put, List.setIfInBounds_toArray, List.set_cons_zero, List.set_cons_succ]
                          refine wpAnyH_take (i := 7) (oi := ?oi7t) (v := undef) ?hi7t (by kernel_rfl) (by kernel_rfl) (by kernel_rfl) ?hq7t ?hy7t (by assumption) ?rest7t
                          case hi7t => (simp only [List.getElem?_toArray, List.getElem?_cons_zero, List.getElem?_cons_succ]; rfl)
                          case hy7t => exact Or.inr ⟨by rfl, rfl⟩
                          case hq7t => exact fun _ _ _ h => h
                          try simp only [Act.put, List.setIfInBounds_toArray, List.set_cons_zero, List.set_cons_succ]
                          refine wpAnyH_take (i := 8) (oi := ?oi8t) (v := undef) ?hi8t (by kernel_rfl) (by kernel_rfl) (by kernel_rfl) ?hq8t ?hy8t (by assumption) ?rest8t
                          case hi8t => (simp only [List.getElem?_toArray, List.getElem?_cons_zero, List.getElem?_cons_succ]; rfl)
                          case hy8t => exact Or.inr ⟨by rfl, rfl⟩
                          case hq8t => exact fun _ _ _ h => h
                          try simp only [Act.put, List.setIfInBounds_toArray, List.set_cons_zero, List.set_cons_succ]
                          refine wpAnyH_take (i := 9) (oi := ?oi9t) (v := undef) ?hi9t (by kernel_rfl) (by kernel_rfl) (by kernel_rfl) ?hq9t ?hy9t (by assumption) ?rest9t
                          case hi9t => (simp only [List.getElem?_toArray, List.getElem?_cons_zero, List.getElem?_cons_succ]; rfl)
                          case hy9t => exact Or.inr ⟨by rfl, rfl⟩
                          case hq9t => exact fun _ _ _ h => h
                          try simp only [Act.put, List.setIfInBounds_toArray, List.set_cons_zero, List.set_cons_succ]
                          refine wpAnyH_take (i := 10) (oi := ?oi10t) (v := undef) ?hi10t (by kernel_rfl) (by kernel_rfl) (by kernel_rfl) ?hq10t ?hy10t (by assumption) ?rest10t
                          case hi10t => (simp only [List.getElem?_toArray, List.getElem?_cons_zero, List.getElem?_cons_succ]; rfl)
                          case hy10t => exact Or.inr ⟨by rfl, rfl⟩
                          case hq10t => exact fun _ _ _ h => h
                          try simp only [Act.put, List.setIfInBounds_toArray, List.set_cons_zero, List.set_cons_succ]
                          refine wpAnyH_take (i := 11) (oi := ?oi11t) (v := undef) ?hi11t (by kernel_rfl) (by kernel_rfl) (by kernel_rfl) ?hq11t ?hy11t (by assumption) ?rest11t
                          case hi11t => (simp only [List.getElem?_toArray, List.getElem?_cons_zero, List.getElem?_cons_succ]; rfl)
                          case hy11t => exact Or.inr ⟨by rfl, rfl⟩
                          case hq11t => exact fun _ _ _ h => h
                          try simp only [Act.put, List.setIfInBounds_toArray, List.set_cons_zero, List.set_cons_succ]
                          refine wpAnyH_take (i := 12) (oi := ?oi12t) (v := undef) ?hi12t (by kernel_rfl) (by kernel_rfl) (by kernel_rfl) ?hq12t ?hy12t (by assumption) ?rest12t
                          case hi12t => (simp only [List.getElem?_toArray, List.getElem?_cons_zero, List.getElem?_cons_succ]; rfl)
                          case hy12t => exact Or.inr ⟨by rfl, rfl⟩
                          case hq12t => exact fun _ _ _ h => h
                          try simp only [Act.put, List.setIfInBounds_toArray, List.set_cons_zero, List.set_cons_succ]
                          refine wpAnyH_take (i := 13) (oi := ?oi13t) (v := undef) ?hi13t (by kernel_rfl) (by kernel_rfl) (by kernel_rfl) ?hq13t ?hy13t (by assumption) ?rest13t
                          case hi13t => (simp only [List.getElem?_toArray, List.getElem?_cons_zero, List.getElem?_cons_succ]; rfl)
                          case hy13t => exact Or.inr ⟨by rfl, rfl⟩
                          case hq13t => exact fun _ _ _ h => h
                          try simp only [Act.put, List.setIfInBounds_toArray, List.set_cons_zero, List.set_cons_succ]
                          refine wpAnyH_take (i := 14) (oi := ?oi14t) (v := undef) ?hi14t (by kernel_rfl) (by kernel_rfl) (by kernel_rfl) ?hq14t ?hy14t (by assumption) ?rest14t
                          case hi14t => (simp only [List.getElem?_toArray, List.getElem?_cons_zero, List.getElem?_cons_succ]; rfl)
                          case hy14t => exact Or.inr ⟨by rfl, rfl⟩
                          case hq14t => exact fun _ _ _ h => h
                          try simp only [Act.put, List.setIfInBounds_toArray, List.set_cons_zero, List.set_cons_succ]
                          refine wpAnyH_take (i := 15) (oi := ?oi15t) (v := undef) ?hi15t (by kernel_rfl) (by kernel_rfl) (by kernel_rfl) ?hq15t ?hy15t (by assumption) ?rest15t
                          case hi15t => (simp only [List.getElem?_toArray, List.getElem?_cons_zero, List.getElem?_cons_succ]; rfl)
                          case hy15t => exact Or.inr ⟨by rfl, rfl⟩
                          case hq15t => exact fun _ _ _ h => h
                          try simp only [Act.put, List.setIfInBounds_toArray, List.set_cons_zero, List.set_cons_succ]
                          refine wpAnyH_take (i := 16) (oi := ?oi16t) (v := ?v16t) ?hi16t (by kernel_rfl) (by kernel_rfl) (by kernel_rfl) ?hq16t ?hy16t (by assumption) ?rest16t
                          case hi16t => (simp only [List.getElem?_toArray, List.getElem?_cons_zero, List.getElem?_cons_succ]; rfl)
                          case hy16t => (refine Or.inl ⟨by rfl, ?_⟩; intro w hSw; (try dsimp only at hSw); go_simp; try with_reducible rfl)
                          case hq16t => exact fun _ _ _ h => h
                          try simp only [Act.put, List.setIfInBounds_toArray, List.set_cons_zero, List.set_cons_succ]
                          refine wpAnyH_take (i := 17) (oi := ?oi17t) (v := ?v17t) ?hi17t (by kernel_rfl) (by kernel_rfl) (by kernel_rfl) ?hq17t ?hy17t (by assumption) ?rest17t
                          case hi17t => (simp only [List.getElem?_toArray, List.getElem?_cons_zero, List.getElem?_cons_succ]; rfl)
                          case hy17t => (refine Or.inl ⟨by rfl, ?_⟩; intro w hSw; (try dsimp only at hSw); go_simp; try with_reducible rfl)
                          case hq17t => exact fun _ _ _ h => h
                          try simp only [Act.put, List.setIfInBounds_toArray, List.set_cons_zero, List.set_cons_succ]
                          refine wpAnyH_ready (rs := [18]) (by kernel_rfl) (by simp) ?_
                          refine AllReadyH.cons (o := ?o18t) ?ho18t (fun K hK => ?st18t) ?mo18t
                          case ho18t => (simp only [List.getElem?_toArray, List.getElem?_cons_zero, List.getElem?_cons_succ]; rfl)
                          · skip
                            go_simp
                            refine hK.out _ _ (HST.out true) (fun _ => ?_)
                            clear hK K
                            refine wpAnyH_done (by kernel_rfl) ?_ _
                            go_wp2_with fail
                            go_meet
                            exact ⟨sayT c s m y, rfl, Lib.hid HK.out.symm, Lib.hid (HFS.out true (by simp))⟩
                          exact AllReadyH.nil
                        exact AllReadyH.nil
                      | false =>
                        refine wpAnyH_take (i := 0) (oi := ?oi0f) (v := ?v0f) ?hi0f (by kernel_rfl) (by kernel_rfl) (by kernel_rfl) ?hq0f ?hy0f (by assumption) ?rest0f
                        case hi0f => (simp only [List.getElem?_toArray, List.getElem?_cons_zero]; rfl)
                        case hy0f => (refine Or.inl ⟨by rfl, ?_⟩; intro w hSw; (try dsimp only at hSw); go_simp; try with_reducible rfl)
                        case hq0f => exact fun _ _ _ h => h
                        try simp only [Act.put, List.setIfInBounds_toArray, List.set_cons_zero, List.set_cons_succ]
                        refine wpAnyH_take (i := 1) (oi := ?oi1f) (v := ?v1f) ?hi1f (by kernel_rfl) (by kernel_rfl) (by kernel_rfl) ?hq1f ?hy1f (by assumption) ?rest1f
                        case hi1f => (simp only [List.getElem?_toArray, List.getElem?_cons_zero, List.getElem?_cons_succ]; rfl)
                        case hy1f => (refine Or.inl ⟨by rfl, ?_⟩; intro w hSw; (try dsimp only at hSw); go_simp; try with_reducible rfl)
                        case hq1f => exact fun _ _ _ h => h
                        try simp only [Act.put, List.setIfInBounds_toArray, List.set_cons_zero, List.set_cons_succ]
                        refine wpAnyH_take (i := 2) (oi := ?oi2f) (v := ?v2f) ?hi2f (by kernel_rfl) (by kernel_rfl) (by kernel_rfl) ?hq2f ?hy2f (by assumption) ?rest2f
                        case hi2f => (simp only [List.getElem?_toArray, List.getElem?_cons_zero, List.getElem?_cons_succ]; rfl)
                        case hy2f => (refine Or.inl ⟨by rfl, ?_⟩; intro w hSw; (try dsimp only at hSw); go_simp; try with_reducible rfl)
                        case hq2f => exact fun _ _ _ h => h
                        try simp only [Act.put, List.setIfInBounds_toArray, List.set_cons_zero, List.set_cons_succ]
                        refine wpAnyH_take (i := 3) (oi := ?oi3f) (v := ?v3f) ?hi3f (by kernel_rfl) (by kernel_rfl) (by kernel_rfl) ?hq3f ?hy3f (by assumption) ?rest3f
                        case hi3f => (simp only [List.getElem?_toArray, List.getElem?_cons_zero, List.getElem?_cons_succ]; rfl)
                        case hy3f => (refine Or.inl ⟨by rfl, ?_⟩; intro w hSw; (try dsimp only at hSw); go_simp; try with_reducible rfl)
                        case hq3f => exact fun _ _ _ h => h
                        try simp only [Act.put, List.setIfInBounds_toArray, List.set_cons_zero, List.set_cons_succ]
                        refine wpAnyH_take (i := 4) (oi := ?oi4f) (v := ?v4f) ?hi4f (by kernel_rfl) (by kernel_rfl) (by kernel_rfl) ?hq4f ?hy4f (by assumption) ?rest4f
                        case hi4f => (simp only [List.getElem?_toArray, List.getElem?_cons_zero, List.getElem?_cons_succ]; rfl)
                        case hy4f => (refine Or.inl ⟨by rfl, ?_⟩; intro w hSw; (try dsimp only at hSw); go_simp; try with_reducible rfl)
                        case hq4f => exact fun _ _ _ h => h
                        try simp only [Act.put, List.setIfInBounds_toArray, List.set_cons_zero, List.set_cons_succ]
                        refine wpAnyH_ready (rs := [5]) (by kernel_rfl) (by simp) ?_
                        refine AllReadyH.cons (o := ?o5f) ?ho5f (fun K hK => ?st5f) ?mo5f
                        case ho5f => (simp only [List.getElem?_toArray, List.getElem?_cons_zero, List.getElem?_cons_succ]; rfl)
                        · skip
                          go_simp
                          refine hK.out _ _ HSS.out (fun _ => ?_)
                          clear hK K
                          try simp only [Act.put, List.setIfInBounds_toArray, List.set_cons_zero, List.set_cons_succ]
                          refine wpAnyH_take (i := 6) (oi := ?oi6f) (v := ?v6f) ?hi6f (by kernel_rfl) (by kernel_rfl) (by kernel_rfl) ?hq6f ?hy6f (by assumption) ?rest6f
                          case hi6f => (simp only [List.getElem?_toArray, List.getElem?_cons_zero, List.getElem?_cons_succ]; rfl)
                          case hy6f => (refine Or.inl ⟨by rfl, ?_⟩; intro w hSw; (try dsimp only at hSw); go_simp; try with_reducible rfl)
                          case hq6f => exact fun _ _ _ h => h
                          try simp only [Act.put, List.setIfInBounds_toArray, List.set_cons_zero, List.set_cons_succ]
                          refine wpAnyH_take (i := 7) (oi := ?oi7f) (v := ?v7f) ?hi7f (by kernel_rfl) (by kernel_rfl) (by kernel_rfl) ?hq7f ?hy7f (by assumption) ?rest7f
                          case hi7f => (simp only [List.getElem?_toArray, List.getElem?_cons_zero, List.getElem?_cons_succ]; rfl)
                          case hy7f => (refine Or.inl ⟨by rfl, ?_⟩; intro w hSw; (try dsimp only at hSw); go_simp; try with_reducible rfl)
                          case hq7f => exact fun _ _ _ h => h
                          try simp only [Act.put, List.setIfInBounds_toArray, List.set_cons_zero, List.set_cons_succ]
                          refine wpAnyH_take (i := 8) (oi := ?oi8f) (v := ?v8f) ?hi8f (by kernel_rfl) (by kernel_rfl) (by kernel_rfl) ?hq8f ?hy8f (by assumption) ?rest8f
                          case hi8f => (simp only [List.getElem?_toArray, List.getElem?_cons_zero, List.getElem?_cons_succ]; rfl)
                          case hy8f => (refine Or.inl ⟨by rfl, ?_⟩; intro w hSw; (try dsimp only at hSw); go_simp; try with_reducible rfl)
                          case hq8f => exact fun _ _ _ h => h
                          try simp only [Act.put, List.setIfInBounds_toArray, List.set_cons_zero, List.set_cons_succ]
                          refine wpAnyH_take (i := 9) (oi := ?oi9f) (v := ?v9f) ?hi9f (by kernel_rfl) (by kernel_rfl) (by kernel_rfl) ?hq9f ?hy9f (by assumption) ?rest9f
                          case hi9f => (simp only [List.getElem?_toArray, List.getElem?_cons_zero, List.getElem?_cons_succ]; rfl)
                          case hy9f => (refine Or.inl ⟨by rfl, ?_⟩; intro w hSw; (try dsimp only at hSw); go_simp; try with_reducible rfl)
                          case hq9f => exact fun _ _ _ h => h
                          try simp only [Act.put, List.setIfInBounds_toArray, List.set_cons_zero, List.set_cons_succ]
                          refine wpAnyH_take (i := 11) (oi := ?oi11f) (v := ?v11f) ?hi11f (by kernel_rfl) (by kernel_rfl) (by kernel_rfl) ?hq11f ?hy11f (by assumption) ?rest11f
                          case hi11f => (simp only [List.getElem?_toArray, List.getElem?_cons_zero, List.getElem?_cons_succ]; rfl)
                          case hy11f => (refine Or.inl ⟨by rfl, ?_⟩; intro w hSw; (try dsimp only at hSw); go_simp; try with_reducible rfl)
                          case hq11f => exact fun _ _ _ h => h
                          try simp only [Act.put, List.setIfInBounds_toArray, List.set_cons_zero, List.set_cons_succ]
                          refine wpAnyH_take (i := 12) (oi := ?oi12f) (v := ?v12f) ?hi12f (by kernel_rfl) (by kernel_rfl) (by kernel_rfl) ?hq12f ?hy12f (by assumption) ?rest12f
                          case hi12f => (simp only [List.getElem?_toArray, List.getElem?_cons_zero, List.getElem?_cons_succ]; rfl)
                          case hy12f => (refine Or.inl ⟨by rfl, ?_⟩; intro w hSw; (try dsimp only at hSw); go_simp; try with_reducible rfl)
                          case hq12f => exact fun _ _ _ h => h
                          try simp only [Act.put, List.setIfInBounds_toArray, List.set_cons_zero, List.set_cons_succ]
                          refine wpAnyH_take (i := 13) (oi := ?oi13f) (v := ?v13f) ?hi13f (by kernel_rfl) (by kernel_rfl) (by kernel_rfl) ?hq13f ?hy13f (by assumption) ?rest13f
                          case hi13f => (simp only [List.getElem?_toArray, List.getElem?_cons_zero, List.getElem?_cons_succ]; rfl)
                          case hy13f => (refine Or.inl ⟨by rfl, ?_⟩; intro w hSw; (try dsimp only at hSw); go_simp; try with_reducible rfl)
                          case hq13f => exact fun _ _ _ h => h
                          try simp only [Act.put, List.setIfInBounds_toArray, List.set_cons_zero, List.set_cons_succ]
                          refine wpAnyH_take (i := 14) (oi := ?oi14f) (v := ?v14f) ?hi14f (by kernel_rfl) (by kernel_rfl) (by kernel_rfl) ?hq14f ?hy14f (by assumption) ?rest14f
                          case hi14f => (simp only [List.getElem?_toArray, List.getElem?_cons_zero, List.getElem?_cons_succ]; rfl)
                          case hy14f => (refine Or.inl ⟨by rfl, ?_⟩; intro w hSw; (try dsimp only at hSw); go_simp; try with_reducible rfl)
                          case hq14f => exact fun _ _ _ h => h
                          try simp only [Act.put, List.setIfInBounds_toArray, List.set_cons_zero, List.set_cons_succ]
                          refine wpAnyH_ready (rs := [10]) (by kernel_rfl) (by simp) ?_
                          refine AllReadyH.cons (o := ?o10f) ?ho10f (fun K hK => ?st10f) ?mo10f
                          case ho10f => (simp only [List.getElem?_toArray, List.getElem?_cons_zero, List.getElem?_cons_succ]; rfl)
                          · skip
                            go_simp
                            refine HAT.out.mono ?_
                            rintro _ _ ⟨rfl, rfl⟩
                            go_simp
                            refine hK.out _ _ HSS.out (fun _ => ?_)
                            clear hK K
                            try simp only [Act.put, List.setIfInBounds_toArray, List.set_cons_zero, List.set_cons_succ]
                            refine wpAnyH_take (i := 15) (oi := ?oi15f) (v := ?v15f) ?hi15f (by kernel_rfl) (by kernel_rfl) (by kernel_rfl) ?hq15f ?hy15f (by assumption) ?rest15f
                            case hi15f => (simp only [List.getElem?_toArray, List.getElem?_cons_zero, List.getElem?_cons_succ]; rfl)
                            case hy15f => (refine Or.inl ⟨by rfl, ?_⟩; intro w hSw; (try dsimp only at hSw); go_simp; try with_reducible rfl)
                            case hq15f => exact fun _ _ _ h => h
                            try simp only [Act.put, List.setIfInBounds_toArray, List.set_cons_zero, List.set_cons_succ]
                            refine wpAnyH_take (i := 16) (oi := ?oi16f) (v := ?v16f) ?hi16f (by kernel_rfl) (by kernel_rfl) (by kernel_rfl) ?hq16f ?hy16f (by assumption) ?rest16f
                            case hi16f => (simp only [List.getElem?_toArray, List.getElem?_cons_zero, List.getElem?_cons_succ]; rfl)
                            case hy16f => (refine Or.inl ⟨by rfl, ?_⟩; intro w hSw; (try dsimp only at hSw); go_simp; try with_reducible rfl)
                            case hq16f => exact fun _ _ _ h => h
                            try simp only [Act.put, List.setIfInBounds_toArray, List.set_cons_zero, List.set_cons_succ]
                            refine wpAnyH_take (i := 17) (oi := ?oi17f) (v := ?v17f) ?hi17f (by kernel_rfl) (by kernel_rfl) (by kernel_rfl) ?hq17f ?hy17f (by assumption) ?rest17f
                            case hi17f => (simp only [List.getElem?_toArray, List.getElem?_cons_zero, List.getElem?_cons_succ]; rfl)
                            case hy17f => (refine Or.inl ⟨by rfl, ?_⟩; intro w hSw; (try dsimp only at hSw); go_simp; try with_reducible rfl)
                            case hq17f => exact fun _ _ _ h => h
                            try simp only [Act.put, List.setIfInBounds_toArray, List.set_cons_zero, List.set_cons_succ]
                            refine wpAnyH_ready (rs := [18]) (by kernel_rfl) (by simp) ?_
                            refine AllReadyH.cons (o := ?o18f) ?ho18f (fun K hK => ?st18f) ?mo18f
                            case ho18f => (simp only [List.getElem?_toArray, List.getElem?_cons_zero, List.getElem?_cons_succ]; rfl)
                            · skip
                              go_simp
                              refine hK.out _ _ (HST.out _) (fun _ => ?_)
                              clear hK K
                              refine wpAnyH_done (by kernel_rfl) ?_ _
                              go_wp2_with fail
                              go_meet
                              exact ⟨sayT c s m y, rfl, Lib.hid HK.out.symm, Lib.hid (HFS.out _ (by simp))⟩
                            exact AllReadyH.nil
                          exact AllReadyH.nil
                        exact AllReadyH.nil
                · have e1 : (kd == 1) = false := by simpa using k1
                  by_cases k2 : kd = 2
                  · have e2 : (kd == 2) = true := by simpa using k2
                    have HK : Hid (stepS c s kd m y bt = if 0 < (s.told y).length then sayH c s m y (whichB bt (s.told y).length) else s) := Lib.hid (by unfold stepS; rw [if_neg k1, if_pos k2])
                    clear k1 k2
                    as_aux_lemma =>
                      have t0 : wy.cell? ⟨T, y, none⟩ = some (v y) := HMR.out.toldC hy2
                      obtain ⟨Ay, cy, hvy, hcy, _⟩ := own_shape (HMR.out.own y hy2)
                      rw [hvy] at t0
                      have hLy : (s.told y).length = (L y).length := by rw [HTL.out y hy2, List.length_map]
                      rw [hLy] at HK
                      have hLb : (L y).length ≤ n + 8 := by have := HS.out.n y; omega
                      have HLY := Lib.hid hLy
                      have HVY := Lib.hid hvy
                      clear hLy hvy
                      by_cases hpos : 0 < (L y).length
                      · have hpI : (0 : Int) < ((L y).length : Int) := by omega
                        have HK2 : Hid (stepS c s kd m y bt = sayH c s m y (whichB bt (L y).length)) := Lib.hid (by rw [HK.out, if_pos hpos])
                        have HPO := Lib.hid fun (W : World) => (pos_any bt ((L y).length : Int) W hbt.1 hbt.2 (by omega)).mono fun e w' (hh : e = .returned (.int .i64 (posZ bt ((L y).length : Int))) ∧ W = w') => And.intro hh.1 hh.2.symm
                        obtain ⟨kk, hkk⟩ : ∃ kk, kk = whichB bt (L y).length := ⟨_, rfl⟩
                        have hkl : kk < (L y).length := by rw [hkk]; exact which_lt hpos
                        have hkI : (kk : Int) < ((L y).length : Int) := by omega
                        have HKK : Hid ((bt = -1 → (kk : Int) = ((L y).length : Int) - 1) ∧ (bt ≠ -1 → posZ bt ((L y).length : Int) = (kk : Int))) := Lib.hid ⟨fun e => by rw [hkk]; unfold whichB; rw [if_pos e]; omega, fun e => by
                          rw [hkk]
                          unfold whichB posZ
                          rw [if_neg e, if_neg (by omega)]
                          have h1 := Int.emod_nonneg bt (show ((L y).length : Int) ≠ 0 by omega)
                          omega⟩
                        obtain ⟨pz, hpz⟩ : ∃ pz, pz = posZ bt ((L y).length : Int) := ⟨_, rfl⟩
                        rw [← hpz] at HPO HKK
                        have HKE := Lib.hid hkk
                        clear hpz hkk
                        go_upto_region 31 with fail
                        go_quiet ((go_at_call 12; exact Calls.quiet_of_same (HPO.out _)))
                        have v2d := HXB2.out (wy.drewN nq) (below_drewN (Below.refl _ _) nq)
                        have t0d : (wy.drewN nq).cell? ⟨T, y, none⟩ = some (.slice Ay (L y).length cy) := t0
                        go_upto_if 177 with fail
                        go_cut [19] from 256 to 256 (fun kv wc => kv = .int .i64 (kk : Int) ∧ Hid (wc = wy.drewN nq))
                        case first =>
                          by_cases hb1 : bt = -1
                          · have e9 : (bt == -1) = true := by simpa using hb1
                            have hkw : IntKind.i64.wrap (((L y).length : Int) - 1) = (kk : Int) := by rw [IntWalk.i64_in _ (by omega)]; exact (HKK.out.1 hb1).symm
                            go_wp2_with fail
                            go_meet
                            exact ⟨rfl, Lib.hid rfl⟩
                          · have e9 : (bt == -1) = false := by simpa using hb1
                            have HE9 : Hid (pz = (kk : Int)) := Lib.hid (HKK.out.2 hb1)
                            clear hb1
                            go_wp2_with fail
                            go_meet
                            exact ⟨by rw [HE9.out], Lib.hid rfl⟩
                        case rest =>
                          obtain ⟨rfl, HWC⟩ := hcut
                          rw [HWC.out]
                          clear HWC v2d HPO
                          obtain ⟨b, hb⟩ : ∃ b, (L y)[kk]? = some b := ⟨_, List.getElem?_eq_getElem hkl⟩
                          obtain ⟨wd, hwd⟩ : ∃ wd, wd = (wy.drewN nq).drew := ⟨_, rfl⟩
                          have hbd : Below wy.heap.size wy wd := by rw [hwd]; exact below_drewN (below_drewN (Below.refl _ _) nq) 1
                          have hRd := HMR.out.over hbd
                          obtain ⟨gq, capq, hveq, o0, o1⟩ := bts_at (hRd.own y hy2) hb
                          rw [HVY.out] at hveq
                          simp only [Value.slice.injEq] at hveq
                          obtain ⟨rfl, _, rfl⟩ := hveq
                          obtain ⟨hbB, hbh, hb2⟩ := hRd.hs y hy2 b (List.mem_of_getElem? hb)
                          have hrd : RdI wd wd.heap.size (some ⟨b.g, 0, none⟩) 2 b.hs := by
                            have h1 := rg_rd (hs := b.hs) (by rw [hb2]; exact hbB)
                            rw [hb2] at h1
                            exact h1
                          have hLd := HS.out.l.over hbd
                          have HPH := Lib.hid (PHeard_x (HC.out.ok m hm) (hLd.live m hm) (by omega) (some ⟨b.g, 0, none⟩) 2 2 b.hs (y : Int) (c y).inc b.tick hrd (by omega) (fun _ b' o s' e hF => by
                            injection e with e
                            injection e with e _ _
                            have := hLd.rng m hm _ hF
                            omega))
                          have p0d : wd.cell? ⟨hi, m, none⟩ = some (.pointer (some ⟨D m, 0, none⟩)) := hRd.dsC hm
                          have i0d : wd.cell? ⟨I, y, none⟩ = some (.int .i64 (c y).inc) := hRd.incC hy2
                          have t1d : wd.cell? ⟨T, y, none⟩ = some (.slice (some ⟨gq, 0, none⟩) (L y).length cy) := by
                            have := hRd.toldC hy2
                            rw [HVY.out] at this
                            exact this
                          have HTB : Hid ((s.told y)[kk]? = some (b.tick, b.hs)) := Lib.hid (by rw [HTL.out y hy2, List.getElem?_map, hb]; rfl)
                          have HLD := Lib.hid hLd
                          have HRD := Lib.hid hRd
                          have HED := Lib.hid (HS.out.e.over hbd)
                          have HWD := Lib.hid hwd
                          clear hb hbd hRd hbB hbh hb2 hrd hLd hwd t0 t0d
                          go_upto_region 34 with fail
                          refine region_tail 16 (by kernel_rfl) (by kernel_rfl) ?_
                          simp only [List.take_succ_cons, List.take_zero, List.drop_succ_cons, List.drop_zero]
                          rw [← HWD.out]
                          repeat still_step
                          refine wpStill_nil ?_
                          change wpList _ _ _ _ _ wd
                          go_wp2_with (go_at_call 13; refine HPH.out.mono ?_; rintro _ w8 ⟨rfl, h8, hc8⟩; have H8 := Lib.hid (And.intro h8 hc8); clear h8 hc8)
                          go_meet
                          have HSE : Hid (sayH c s m y kk = { s with d := updN s.d m (hearD (c m) (s.d m) (y : Int) (c y).inc b.tick b.hs) }) := Lib.hid (by unfold sayH; rw [HTB.out])
                          refine ⟨sayH c s m y kk, ?_, Lib.hid (by rw [HK2.out, ← HKE.out]), Lib.hid ?_⟩
                          · rw [HSE.out]
                          · have hmi := HS.out.i.sayH HC.out HO.out kk
                            rw [HSE.out] at hmi ⊢
                            exact ⟨HLD.out.up.step hm H8.out.1 H8.out.2, ⟨v, L, HRD.out.chg H8.out.2 (HS.out.l.rng m hm), HTL.out⟩, hmi, HED.out.chg H8.out.2 (fun e => by have := HS.out.l.rng m hm _ e; have := HS.out.eh; omega), HS.out.eh, fun i => Nat.le_succ_of_le (HS.out.n i)⟩
                      · have hpI : decide ((0 : Int) < ((L y).length : Int)) = false := by
                          have : ¬ (0 : Int) < ((L y).length : Int) := by omega
                          simpa using this
                        have HK2 : Hid (stepS c s kd m y bt = s) := Lib.hid (by rw [HK.out, if_neg hpos])
                        go_wp2_with fail
                        go_meet
                        exact ⟨s, rfl, Lib.hid HK2.out.symm, Lib.hid ⟨HS.out.l.up, ⟨v, L, HMR.out, HTL.out⟩, HS.out.i.up, HS.out.e, HS.out.eh, fun i => Nat.le_succ_of_le (HS.out.n i)⟩⟩
                  · have e2 : (kd == 2) = false := by simpa using k2
                    by_cases k3 : kd = 3
                    · have e3 : (kd == 3) = true := by simpa using k3
                      have HK : Hid (stepS c s kd m y bt = sayL s m) := Lib.hid (by unfold stepS; rw [if_neg k1, if_neg k2, if_pos k3])
                      clear k1 k2 k3
                      have HLV := Lib.hid (PLeave_x (HC.out.ok m hm) (HS.out.l.live m hm))
                      go_wp2_with (go_at_call 25; refine HLV.out.mono ?_; rintro _ w8 ⟨rfl, h8, hc8⟩; have H8 := Lib.hid (And.intro h8 hc8); clear h8 hc8)
                      go_meet
                      exact ⟨sayL s m, rfl, Lib.hid HK.out.symm, Lib.hid ⟨(HS.out.l.step hm H8.out.1 H8.out.2).up, ⟨v, L, HMR.out.chg H8.out.2 (HS.out.l.rng m hm), HTL.out⟩, (HS.out.i.sayL HO.out).up, HS.out.e.chg H8.out.2 (fun e => by have := HS.out.l.rng m hm _ e; have := HS.out.eh; omega), HS.out.eh, fun i => Nat.le_succ_of_le (HS.out.n i)⟩⟩
                    · have e3 : (kd == 3) = false := by simpa using k3
                      have HK : Hid (stepS c s kd m y bt = s) := Lib.hid (by unfold stepS; rw [if_neg k1, if_neg k2, if_neg k3])
                      clear k1 k2 k3
                      go_wp2_with fail
                      go_meet
                      obtain ⟨v', L', hr1, hr2⟩ := HS.out.r
                      exact ⟨s, rfl, Lib.hid HK.out.symm, Lib.hid ⟨HS.out.l.up, ⟨v', L', hr1, hr2⟩, HS.out.i.up, HS.out.e, HS.out.eh, fun i => Nat.le_succ_of_le (HS.out.n i)⟩⟩
              case rest =>
                as_aux_lemma =>
                  obtain ⟨s', rfl, HSP, HS2⟩ := hcut
                  obtain ⟨w9, HW9⟩ : ∃ w9, Hid (wc = w9) := ⟨_, Lib.hid rfl⟩
                  rw [HW9.out] at HS2 ⊢
                  clear HW9 p0 v2
                  obtain ⟨v9, L9, hR9, _⟩ := HS2.out.r
                  have HR9 := Lib.hid hR9
                  clear hR9
                  obtain ⟨G, hG⟩ : ∃ G, G = estL (c m) (s'.d m) := ⟨_, rfl⟩
                  have hG2 : G.length = 2 := by rw [hG]; simp [estL, HC.out.n m hm]
                  have hGat : ∀ q : Nat, q < 2 → atZ G (q : Int) = estAt (c m) (s'.d m) q := fun q hq => by
                    unfold atZ
                    rw [if_neg (by omega), if_neg (by rw [hG2]; omega), Int.toNat_natCast, hG]
                    simp [estL, List.getD, HC.out.n m hm, hq]
                  have hGm : atZ G (m : Int) = (c m).inc := by rw [hGat m hm]; exact est_self HC.out hm
                  obtain ⟨ev, hev⟩ : ∃ ev, ev = estAt (c m) (s'.d m) y := ⟨_, rfl⟩
                  have hGy : atZ G (y : Int) = ev := by rw [hGat y hy2, hev]
                  have hcs := HS2.out.i.est HC.out HO.out
                  rw [← hev] at hcs
                  have HEST : Hid (∀ W, Below w9.heap.size w9 W → Calls Try.prog 19 #[.pointer (some ⟨D m, 0, none⟩)] W fun e w' => ∃ A cap, e = .returned (.slice A 2 cap) ∧ RdI w' w'.heap.size A 2 G ∧ Below W.heap.size W w') := Lib.hid fun W hW => (PEst_x (HC.out.ok m hm) ((HS2.out.l.live m hm).over hW)).mono fun e w' hh => by
                    obtain ⟨A, cap, h1, h2, h3⟩ := hh.rd
                    rw [← hG, hG2] at h1 h2
                    exact ⟨A, cap, h1, h2, h3⟩
                  have HAM : Hid (∀ (W : World) (A : Option Addr) (cap : Nat), RdI W W.heap.size A 2 G → Calls Try.prog 17 #[.slice A 2 cap, .int .i64 (m : Int)] W fun e w' => e = .returned (.int .i64 (c m).inc) ∧ W = w') := Lib.hid fun W A cap hr => by
                    have h := at_any A 2 cap G (m : Int) W hr
                    rw [hGm] at h
                    exact h
                  have HAY : Hid (∀ (W : World) (A : Option Addr) (cap : Nat), RdI W W.heap.size A 2 G → Calls Try.prog 17 #[.slice A 2 cap, .int .i64 (y : Int)] W fun e w' => e = .returned (.int .i64 ev) ∧ W = w') := Lib.hid fun W A cap hr => by
                    have h := at_any A 2 cap G (y : Int) W hr
                    rw [hGy] at h
                    exact h
                  have HKN := Lib.hid fun (W : World) (hW : Below w9.heap.size w9 W) => PKnown_x (HC.out.ok y hy2) ((HS2.out.l.live y hy2).over hW) (m : Int)
                  have HCL : Hid (∀ W, Below w9.heap.size w9 W → W.cell? ⟨hi, m, none⟩ = some (.pointer (some ⟨D m, 0, none⟩)) ∧ W.cell? ⟨hi, y, none⟩ = some (.pointer (some ⟨D y, 0, none⟩)) ∧ W.cell? ⟨I, m, none⟩ = some (.int .i64 (c m).inc) ∧ W.cell? ⟨I, y, none⟩ = some (.int .i64 (c y).inc) ∧ W.cell? ⟨S, y, none⟩ = some (.bool (s'.said y))) := Lib.hid fun W hW =>
                    ⟨(HR9.out.over hW).dsC hm, (HR9.out.over hW).dsC hy2, (HR9.out.over hW).incC hm, (HR9.out.over hW).incC hy2, (HR9.out.over hW).saidC hy2⟩
                  have HNE : Hid (n ≤ j + 1 → ∃ s0, MI c s0 n ∧ (∀ m, (s0.told m).length ≤ n) ∧ s' = endS c s0 (j + 1 - n)) := Lib.hid fun h => by
                    by_cases hjn : n ≤ j
                    · obtain ⟨s0, h1, h2, h3⟩ := HEN.out hjn
                      refine ⟨s0, h1, h2, ?_⟩
                      rw [HSP.out, h3, show j + 1 - n = (j - n) + 1 by omega]
                      exact (endS_succ c s0 (HEL2.out hjn)).symm
                    · obtain rfl : n = j + 1 := by omega
                      exact ⟨s', HS2.out.i, HS2.out.n, by rw [show j + 1 - (j + 1) = 0 by omega]; rfl⟩
                  have HCS := Lib.hid hcs
                  obtain ⟨wd, hwd⟩ : ∃ wd, wd = w9.drew := ⟨_, rfl⟩
                  have HBD : Hid (Below w9.heap.size w9 wd) := Lib.hid (by rw [hwd]; exact below_drewN (Below.refl _ _) 1)
                  have HWD := Lib.hid hwd
                  have hmm : ((c m).inc != (c m).inc) = false := by simp
                  clear hG hGat hGm hev hGy hcs hwd HR9 HEL2 HEN HSP HXB2
                  go_upto_region 38 with fail
                  refine wp_region_held_drew (S := fun W => W.cell? ⟨hi, m, none⟩ = some (.pointer (some ⟨D m, 0, none⟩)) ∧ W.cell? ⟨I, m, none⟩ = some (.int .i64 (c m).inc)) (by kernel_rfl) (by rw [← HWD.out]; exact ⟨(HCL.out _ HBD.out).1, (HCL.out _ HBD.out).2.2.1⟩) (fun hsw => ?_)
                  rw [← HWD.out] at hsw ⊢
                  refine wpAnyH_take (i := 0) (oi := ?oi0d) (v := ?v0d) ?hi0d (by kernel_rfl) (by kernel_rfl) (by kernel_rfl) ?hq0d ?hy0d (by assumption) ?rest0d
                  case hi0d => (simp only [List.getElem?_toArray, List.getElem?_cons_zero]; rfl)
                  case hy0d => (refine Or.inl ⟨by rfl, ?_⟩; intro w hSw; (try dsimp only at hSw); go_simp; try with_reducible rfl)
                  case hq0d => exact fun _ _ _ h => h
                  try simp only [Act.put, List.setIfInBounds_toArray, List.set_cons_zero, List.set_cons_succ]
                  refine wpAnyH_take (i := 1) (oi := ?oi1d) (v := ?v1d) ?hi1d (by kernel_rfl) (by kernel_rfl) (by kernel_rfl) ?hq1d ?hy1d (by assumption) ?rest1d
                  case hi1d => (simp only [List.getElem?_toArray, List.getElem?_cons_zero, List.getElem?_cons_succ]; rfl)
                  case hy1d => (refine Or.inl ⟨by rfl, ?_⟩; intro w hSw; (try dsimp only at hSw); go_simp; try with_reducible rfl)
                  case hq1d => exact fun _ _ _ h => h
                  try simp only [Act.put, List.setIfInBounds_toArray, List.set_cons_zero, List.set_cons_succ]
                  refine wpAnyH_take (i := 2) (oi := ?oi2d) (v := ?v2d) ?hi2d (by kernel_rfl) (by kernel_rfl) (by kernel_rfl) ?hq2d ?hy2d (by assumption) ?rest2d
                  case hi2d => (simp only [List.getElem?_toArray, List.getElem?_cons_zero, List.getElem?_cons_succ]; rfl)
                  case hy2d => (refine Or.inl ⟨by rfl, ?_⟩; intro w hSw; (try dsimp only at hSw); go_simp; try with_reducible rfl)
                  case hq2d => exact fun _ _ _ h => h
                  try simp only [Act.put, List.setIfInBounds_toArray, List.set_cons_zero, List.set_cons_succ]
                  refine wpAnyH_take (i := 3) (oi := ?oi3d) (v := ?v3d) ?hi3d (by kernel_rfl) (by kernel_rfl) (by kernel_rfl) ?hq3d ?hy3d (by assumption) ?rest3d
                  case hi3d => (simp only [List.getElem?_toArray, List.getElem?_cons_zero, List.getElem?_cons_succ]; rfl)
                  case hy3d => (refine Or.inl ⟨by rfl, ?_⟩; intro w hSw; (try dsimp only at hSw); go_simp; try with_reducible rfl)
                  case hq3d => exact fun _ _ _ h => h
                  try simp only [Act.put, List.setIfInBounds_toArray, List.set_cons_zero, List.set_cons_succ]
                  refine wpAnyH_take (i := 5) (oi := ?oi5d) (v := ?v5d) ?hi5d (by kernel_rfl) (by kernel_rfl) (by kernel_rfl) ?hq5d ?hy5d (by assumption) ?rest5d
                  case hi5d => (simp only [List.getElem?_toArray, List.getElem?_cons_zero, List.getElem?_cons_succ]; rfl)
                  case hy5d => (refine Or.inl ⟨by rfl, ?_⟩; intro w hSw; (try dsimp only at hSw); go_simp; try with_reducible rfl)
                  case hq5d => exact fun _ _ _ h => h
                  try simp only [Act.put, List.setIfInBounds_toArray, List.set_cons_zero, List.set_cons_succ]
                  refine wpAnyH_take (i := 7) (oi := ?oi7d) (v := ?v7d) ?hi7d (by kernel_rfl) (by kernel_rfl) (by kernel_rfl) ?hq7d ?hy7d (by assumption) ?rest7d
                  case hi7d => (simp only [List.getElem?_toArray, List.getElem?_cons_zero, List.getElem?_cons_succ]; rfl)
                  case hy7d => (refine Or.inl ⟨by rfl, ?_⟩; intro w hSw; (try dsimp only at hSw); go_simp; try with_reducible rfl)
                  case hq7d => exact fun _ _ _ h => h
                  try simp only [Act.put, List.setIfInBounds_toArray, List.set_cons_zero, List.set_cons_succ]
                  refine wpAnyH_take (i := 8) (oi := ?oi8d) (v := ?v8d) ?hi8d (by kernel_rfl) (by kernel_rfl) (by kernel_rfl) ?hq8d ?hy8d (by assumption) ?rest8d
                  case hi8d => (simp only [List.getElem?_toArray, List.getElem?_cons_zero, List.getElem?_cons_succ]; rfl)
                  case hy8d => (refine Or.inl ⟨by rfl, ?_⟩; intro w hSw; (try dsimp only at hSw); go_simp; try with_reducible rfl)
                  case hq8d => exact fun _ _ _ h => h
                  try simp only [Act.put, List.setIfInBounds_toArray, List.set_cons_zero, List.set_cons_succ]
                  refine wpAnyH_take (i := 9) (oi := ?oi9d) (v := ?v9d) ?hi9d (by kernel_rfl) (by kernel_rfl) (by kernel_rfl) ?hq9d ?hy9d (by assumption) ?rest9d
                  case hi9d => (simp only [List.getElem?_toArray, List.getElem?_cons_zero, List.getElem?_cons_succ]; rfl)
                  case hy9d => (refine Or.inl ⟨by rfl, ?_⟩; intro w hSw; (try dsimp only at hSw); go_simp; try with_reducible rfl)
                  case hq9d => exact fun _ _ _ h => h
                  try simp only [Act.put, List.setIfInBounds_toArray, List.set_cons_zero, List.set_cons_succ]
                  refine wpAnyH_take (i := 10) (oi := ?oi10d) (v := ?v10d) ?hi10d (by kernel_rfl) (by kernel_rfl) (by kernel_rfl) ?hq10d ?hy10d (by assumption) ?rest10d
                  case hi10d => (simp only [List.getElem?_toArray, List.getElem?_cons_zero, List.getElem?_cons_succ]; rfl)
                  case hy10d => (refine Or.inl ⟨by rfl, ?_⟩; intro w hSw; (try dsimp only at hSw); go_simp; try with_reducible rfl)
                  case hq10d => exact fun _ _ _ h => h
                  try simp only [Act.put, List.setIfInBounds_toArray, List.set_cons_zero, List.set_cons_succ]
                  refine wpAnyH_ready (rs := [4]) (by kernel_rfl) (by simp) ?_
                  refine AllReadyH.cons (o := ?o4d) ?ho4d (fun K hK => ?st4d) ?mo4d
                  case ho4d => (simp only [List.getElem?_toArray, List.getElem?_cons_zero, List.getElem?_cons_succ]; rfl)
                  · skip
                    go_simp
                    refine (HEST.out wd HBD.out).mono ?_
                    rintro _ wa ⟨A1, ca1, rfl, hra, hba⟩
                    have hb9a := HBD.out.trans (hba.mono HBD.out.size)
                    have HA1 := Lib.hid (HAM.out wa A1 ca1 hra)
                    have HSA : Hid (wa.cell? ⟨hi, m, none⟩ = some (.pointer (some ⟨D m, 0, none⟩)) ∧ wa.cell? ⟨I, m, none⟩ = some (.int .i64 (c m).inc)) := Lib.hid ⟨(HCL.out _ hb9a).1, (HCL.out _ hb9a).2.2.1⟩
                    have HBA := Lib.hid hb9a
                    clear hra hba hb9a
                    go_simp
                    refine hK.out _ _ HSA.out (fun _ => ?_)
                    clear hK K
                    try simp only [Act.put, List.setIfInBounds_toArray, List.set_cons_zero, List.set_cons_succ]
                    refine wpAnyH_ready (rs := [6]) (by kernel_rfl) (by simp) ?_
                    refine AllReadyH.cons (o := ?o6d) ?ho6d (fun K hK => ?st6d) ?mo6d
                    case ho6d => (simp only [List.getElem?_toArray, List.getElem?_cons_zero, List.getElem?_cons_succ]; rfl)
                    · skip
                      go_simp
                      refine HA1.out.mono ?_
                      rintro _ _ ⟨rfl, rfl⟩
                      go_simp
                      refine hK.out _ _ HSA.out (fun _ => ?_)
                      clear hK K
                      try simp only [Act.put, List.setIfInBounds_toArray, List.set_cons_zero, List.set_cons_succ]
                      refine wpAnyH_take (i := 11) (oi := ?oi11d) (v := ?v11d) ?hi11d (by kernel_rfl) (by kernel_rfl) (by kernel_rfl) ?hq11d ?hy11d (by assumption) ?rest11d
                      case hi11d => (simp only [List.getElem?_toArray, List.getElem?_cons_zero, List.getElem?_cons_succ]; rfl)
                      case hy11d => (refine Or.inl ⟨by rfl, ?_⟩; intro w hSw; (try dsimp only at hSw); go_simp; try with_reducible rfl)
                      case hq11d => exact fun _ _ _ h => h
                      try simp only [Act.put, List.setIfInBounds_toArray, List.set_cons_zero, List.set_cons_succ]
                      refine wpAnyH_done (by kernel_rfl) ?_ _
                      obtain ⟨g0, _, _, _, _⟩ := HCL.out wa HBA.out
                      go_upto_region 41 with (first
                        | (go_at_call 19; refine (HEST.out wa HBA.out).mono ?_; rintro _ we ⟨A2, ca2, rfl, hre, hbe⟩; have hb9e := HBA.out.trans (hbe.mono HBA.out.size); have HA2 := Lib.hid (HAY.out we A2 ca2 hre); have HBE := Lib.hid hb9e; clear hre hbe hb9e)
                        | (go_at_call 17; refine HA2.out.mono ?_; rintro _ _ ⟨rfl, rfl⟩))
                      clear g0
                      have HS3 := Lib.hid (HS2.out.over HBE.out)
                      rcases HCS.out with h0 | ⟨h1, h2, h3⟩
                      · have e0 : (ev != 0) = false := by rw [h0]; rfl
                        clear h0
                        go_quiet (fail)
                        go_wp2_with fail
                        go_roundw
                        case rel => exact ⟨j + 1, s', by omega, by go_num, rfl, Lib.hid (HS3.out.over (below_drewN (Below.refl _ _) _)), HNE⟩
                        case measure => simp [intOf] <;> omega
                      · by_cases h0 : ev = 0
                        · have e0 : (ev != 0) = false := by rw [h0]; rfl
                          clear h0 h1
                          go_quiet (fail)
                          go_wp2_with fail
                          go_roundw
                          case rel => exact ⟨j + 1, s', by omega, by go_num, rfl, Lib.hid (HS3.out.over (below_drewN (Below.refl _ _) _)), HNE⟩
                          case measure => simp [intOf] <;> omega
                        · have e0 : (ev != 0) = true := by simpa using h0
                          have e1 : (ev != (c y).inc) = false := by rw [h1]; simp
                          obtain ⟨_, g1, g2, g3, g4⟩ := HCL.out we HBE.out
                          rw [h2] at g4
                          have HK3 : Hid (∀ W, Below w9.heap.size w9 W → Calls Try.prog 26 #[.pointer (some ⟨D y, 0, none⟩), .int .i64 (m : Int)] W fun e w' => e = .returned (.int .i64 (c m).inc) ∧ w' = W) := Lib.hid fun W hW => (HKN.out W hW).mono fun e w' hh => ⟨by rw [hh.1, h3], hh.2.symm⟩
                          clear h0 h1 h2 h3
                          go_quiet ((go_at_call 26; exact Calls.quiet_of_same (HK3.out _ (HBE.out.trans ((below_drewN (Below.refl _ _) _).mono HBE.out.size)))))
                          clear g1 g2 g3 g4
                          go_wp2_with fail
                          go_roundw
                          case rel => exact ⟨j + 1, s', by omega, by go_num, rfl, Lib.hid (HS3.out.over (below_drewN (Below.refl _ _) _)), HNE⟩
                          case measure => simp [intOf] <;> omega
                    · exact AllReadyH.nil
                  · exact AllReadyH.nil
          · obtain rfl : j = n + 8 := by omega
            clear hlt
            obtain ⟨s0, hi0s, hs0n, hse⟩ := HEN.out (by omega)
            rw [show n + 8 - n = 8 by omega] at hse
            obtain ⟨lf, hlf⟩ : ∃ lf, lf = s.left := ⟨_, rfl⟩
            have HBT : Hid (lf = false → estAt (c 0) (s.d 0) 1 = x1 ∧ estAt (c 1) (s.d 1) 0 = x0) := Lib.hid fun h => by
              have h1 := both_in hi0s HC.out (by rw [← endS_left c s0, ← hse, ← hlf]; exact h) (by have := hs0n 0; omega) (by have := hs0n 1; omega)
              rw [← endS_all, ← hse, HC0.out.1, HC0.out.2] at h1
              exact h1
            rw [← hlf]
            clear hi0s hs0n hse hlf HEN
            obtain ⟨wd, hwd⟩ : ∃ wd, wd = wr.drew := ⟨_, rfl⟩
            have HBD : Hid (Below wr.heap.size wr wd) := Lib.hid (by rw [hwd]; exact below_drewN (Below.refl _ _) 1)
            have HWD := Lib.hid hwd
            clear hwd
            have HXT : Hid (∀ W, Below wr.heap.size wr W → W.cell? ⟨w.heap.size, 0, none⟩ = some (.int .i64 x0) ∧ W.cell? ⟨w.heap.size, 1, none⟩ = some (.int .i64 x1)) := Lib.hid fun W hW => HXW.out W (HS.out.below.trans (hW.mono HS.out.below.size))
            have HFR : Hid (∀ W, Below wr.heap.size wr W → Below w.heap.size w W) := Lib.hid fun W hW => HB1.out.trans ((HS.out.below.trans (hW.mono HS.out.below.size)).mono HB1.out.size)
            go_upto_region 43 with fail
            refine wp_region_held_drew (S := fun W => W.cell? ⟨w.heap.size, 0, none⟩ = some (.int .i64 x0) ∧ W.cell? ⟨w.heap.size, 1, none⟩ = some (.int .i64 x1)) (by kernel_rfl) (by rw [← HWD.out]; exact HXT.out _ HBD.out) (fun hsw => ?_)
            rw [← HWD.out] at hsw ⊢
            cases lf with
            | true =>
              refine wpAnyH_take (i := 0) (oi := ?oi0y) (v := ?v0y) ?hi0y (by kernel_rfl) (by kernel_rfl) (by kernel_rfl) ?hq0y ?hy0y (by assumption) ?rest0y
              case hi0y => (simp only [List.getElem?_toArray, List.getElem?_cons_zero]; rfl)
              case hy0y => (refine Or.inl ⟨by rfl, ?_⟩; intro w hSw; (try dsimp only at hSw); go_simp; try with_reducible rfl)
              case hq0y => exact fun _ _ _ h => h
              try simp only [Act.put, List.setIfInBounds_toArray, List.set_cons_zero, List.set_cons_succ]
              refine wpAnyH_take (i := 1) (oi := ?oi1y) (v := ?v1y) ?hi1y (by kernel_rfl) (by kernel_rfl) (by kernel_rfl) ?hq1y ?hy1y (by assumption) ?rest1y
              case hi1y => (simp only [List.getElem?_toArray, List.getElem?_cons_zero, List.getElem?_cons_succ]; rfl)
              case hy1y => (refine Or.inl ⟨by rfl, ?_⟩; intro w hSw; (try dsimp only at hSw); go_simp; try with_reducible rfl)
              case hq1y => exact fun _ _ _ h => h
              try simp only [Act.put, List.setIfInBounds_toArray, List.set_cons_zero, List.set_cons_succ]
              refine wpAnyH_take (i := 2) (oi := ?oi2y) (v := undef) ?hi2y (by kernel_rfl) (by kernel_rfl) (by kernel_rfl) ?hq2y ?hy2y (by assumption) ?rest2y
              case hi2y => (simp only [List.getElem?_toArray, List.getElem?_cons_zero, List.getElem?_cons_succ]; rfl)
              case hy2y => exact Or.inr ⟨by rfl, rfl⟩
              case hq2y => exact fun _ _ _ h => h
              try simp only [Act.put, List.setIfInBounds_toArray, List.set_cons_zero, List.set_cons_succ]
              refine wpAnyH_take (i := 3) (oi := ?oi3y) (v := undef) ?hi3y (by kernel_rfl) (by kernel_rfl) (by kernel_rfl) ?hq3y ?hy3y (by assumption) ?rest3y
              case hi3y => (simp only [List.getElem?_toArray, List.getElem?_cons_zero, List.getElem?_cons_succ]; rfl)
              case hy3y => exact Or.inr ⟨by rfl, rfl⟩
              case hq3y => exact fun _ _ _ h => h
              try simp only [Act.put, List.setIfInBounds_toArray, List.set_cons_zero, List.set_cons_succ]
              refine wpAnyH_take (i := 4) (oi := ?oi4y) (v := undef) ?hi4y (by kernel_rfl) (by kernel_rfl) (by kernel_rfl) ?hq4y ?hy4y (by assumption) ?rest4y
              case hi4y => (simp only [List.getElem?_toArray, List.getElem?_cons_zero, List.getElem?_cons_succ]; rfl)
              case hy4y => exact Or.inr ⟨by rfl, rfl⟩
              case hq4y => exact fun _ _ _ h => h
              try simp only [Act.put, List.setIfInBounds_toArray, List.set_cons_zero, List.set_cons_succ]
              refine wpAnyH_take (i := 5) (oi := ?oi5y) (v := undef) ?hi5y (by kernel_rfl) (by kernel_rfl) (by kernel_rfl) ?hq5y ?hy5y (by assumption) ?rest5y
              case hi5y => (simp only [List.getElem?_toArray, List.getElem?_cons_zero, List.getElem?_cons_succ]; rfl)
              case hy5y => exact Or.inr ⟨by rfl, rfl⟩
              case hq5y => exact fun _ _ _ h => h
              try simp only [Act.put, List.setIfInBounds_toArray, List.set_cons_zero, List.set_cons_succ]
              refine wpAnyH_take (i := 6) (oi := ?oi6y) (v := undef) ?hi6y (by kernel_rfl) (by kernel_rfl) (by kernel_rfl) ?hq6y ?hy6y (by assumption) ?rest6y
              case hi6y => (simp only [List.getElem?_toArray, List.getElem?_cons_zero, List.getElem?_cons_succ]; rfl)
              case hy6y => exact Or.inr ⟨by rfl, rfl⟩
              case hq6y => exact fun _ _ _ h => h
              try simp only [Act.put, List.setIfInBounds_toArray, List.set_cons_zero, List.set_cons_succ]
              refine wpAnyH_take (i := 7) (oi := ?oi7y) (v := undef) ?hi7y (by kernel_rfl) (by kernel_rfl) (by kernel_rfl) ?hq7y ?hy7y (by assumption) ?rest7y
              case hi7y => (simp only [List.getElem?_toArray, List.getElem?_cons_zero, List.getElem?_cons_succ]; rfl)
              case hy7y => exact Or.inr ⟨by rfl, rfl⟩
              case hq7y => exact fun _ _ _ h => h
              try simp only [Act.put, List.setIfInBounds_toArray, List.set_cons_zero, List.set_cons_succ]
              refine wpAnyH_take (i := 8) (oi := ?oi8y) (v := undef) ?hi8y (by kernel_rfl) (by kernel_rfl) (by kernel_rfl) ?hq8y ?hy8y (by assumption) ?rest8y
              case hi8y => (simp only [List.getElem?_toArray, List.getElem?_cons_zero, List.getElem?_cons_succ]; rfl)
              case hy8y => exact Or.inr ⟨by rfl, rfl⟩
              case hq8y => exact fun _ _ _ h => h
              try simp only [Act.put, List.setIfInBounds_toArray, List.set_cons_zero, List.set_cons_succ]
              refine wpAnyH_take (i := 9) (oi := ?oi9y) (v := undef) ?hi9y (by kernel_rfl) (by kernel_rfl) (by kernel_rfl) ?hq9y ?hy9y (by assumption) ?rest9y
              case hi9y => (simp only [List.getElem?_toArray, List.getElem?_cons_zero, List.getElem?_cons_succ]; rfl)
              case hy9y => exact Or.inr ⟨by rfl, rfl⟩
              case hq9y => exact fun _ _ _ h => h
              try simp only [Act.put, List.setIfInBounds_toArray, List.set_cons_zero, List.set_cons_succ]
              refine wpAnyH_take (i := 10) (oi := ?oi10y) (v := undef) ?hi10y (by kernel_rfl) (by kernel_rfl) (by kernel_rfl) ?hq10y ?hy10y (by assumption) ?rest10y
              case hi10y => (simp only [List.getElem?_toArray, List.getElem?_cons_zero, List.getElem?_cons_succ]; rfl)
              case hy10y => exact Or.inr ⟨by rfl, rfl⟩
              case hq10y => exact fun _ _ _ h => h
              try simp only [Act.put, List.setIfInBounds_toArray, List.set_cons_zero, List.set_cons_succ]
              refine wpAnyH_take (i := 11) (oi := ?oi11y) (v := undef) ?hi11y (by kernel_rfl) (by kernel_rfl) (by kernel_rfl) ?hq11y ?hy11y (by assumption) ?rest11y
              case hi11y => (simp only [List.getElem?_toArray, List.getElem?_cons_zero, List.getElem?_cons_succ]; rfl)
              case hy11y => exact Or.inr ⟨by rfl, rfl⟩
              case hq11y => exact fun _ _ _ h => h
              try simp only [Act.put, List.setIfInBounds_toArray, List.set_cons_zero, List.set_cons_succ]
              refine wpAnyH_take (i := 12) (oi := ?oi12y) (v := undef) ?hi12y (by kernel_rfl) (by kernel_rfl) (by kernel_rfl) ?hq12y ?hy12y (by assumption) ?rest12y
              case hi12y => (simp only [List.getElem?_toArray, List.getElem?_cons_zero, List.getElem?_cons_succ]; rfl)
              case hy12y => exact Or.inr ⟨by rfl, rfl⟩
              case hq12y => exact fun _ _ _ h => h
              try simp only [Act.put, List.setIfInBounds_toArray, List.set_cons_zero, List.set_cons_succ]
              refine wpAnyH_take (i := 13) (oi := ?oi13y) (v := undef) ?hi13y (by kernel_rfl) (by kernel_rfl) (by kernel_rfl) ?hq13y ?hy13y (by assumption) ?rest13y
              case hi13y => (simp only [List.getElem?_toArray, List.getElem?_cons_zero, List.getElem?_cons_succ]; rfl)
              case hy13y => exact Or.inr ⟨by rfl, rfl⟩
              case hq13y => exact fun _ _ _ h => h
              try simp only [Act.put, List.setIfInBounds_toArray, List.set_cons_zero, List.set_cons_succ]
              refine wpAnyH_take (i := 14) (oi := ?oi14y) (v := undef) ?hi14y (by kernel_rfl) (by kernel_rfl) (by kernel_rfl) ?hq14y ?hy14y (by assumption) ?rest14y
              case hi14y => (simp only [List.getElem?_toArray, List.getElem?_cons_zero, List.getElem?_cons_succ]; rfl)
              case hy14y => exact Or.inr ⟨by rfl, rfl⟩
              case hq14y => exact fun _ _ _ h => h
              try simp only [Act.put, List.setIfInBounds_toArray, List.set_cons_zero, List.set_cons_succ]
              refine wpAnyH_take (i := 15) (oi := ?oi15y) (v := undef) ?hi15y (by kernel_rfl) (by kernel_rfl) (by kernel_rfl) ?hq15y ?hy15y (by assumption) ?rest15y
              case hi15y => (simp only [List.getElem?_toArray, List.getElem?_cons_zero, List.getElem?_cons_succ]; rfl)
              case hy15y => exact Or.inr ⟨by rfl, rfl⟩
              case hq15y => exact fun _ _ _ h => h
              try simp only [Act.put, List.setIfInBounds_toArray, List.set_cons_zero, List.set_cons_succ]
              refine wpAnyH_take (i := 16) (oi := ?oi16y) (v := ?v16y) ?hi16y (by kernel_rfl) (by kernel_rfl) (by kernel_rfl) ?hq16y ?hy16y (by assumption) ?rest16y
              case hi16y => (simp only [List.getElem?_toArray, List.getElem?_cons_zero, List.getElem?_cons_succ]; rfl)
              case hy16y => (refine Or.inl ⟨by rfl, ?_⟩; intro w hSw; (try dsimp only at hSw); go_simp; try with_reducible rfl)
              case hq16y => exact fun _ _ _ h => h
              try simp only [Act.put, List.setIfInBounds_toArray, List.set_cons_zero, List.set_cons_succ]
              refine wpAnyH_take (i := 17) (oi := ?oi17y) (v := ?v17y) ?hi17y (by kernel_rfl) (by kernel_rfl) (by kernel_rfl) ?hq17y ?hy17y (by assumption) ?rest17y
              case hi17y => (simp only [List.getElem?_toArray, List.getElem?_cons_zero, List.getElem?_cons_succ]; rfl)
              case hy17y => (refine Or.inl ⟨by rfl, ?_⟩; intro w hSw; (try dsimp only at hSw); go_simp; try with_reducible rfl)
              case hq17y => exact fun _ _ _ h => h
              try simp only [Act.put, List.setIfInBounds_toArray, List.set_cons_zero, List.set_cons_succ]
              refine wpAnyH_done (by kernel_rfl) ?_ _
              go_wp2
              go_ret
              exact ⟨rfl, HFR.out _ HBD.out⟩
            | false =>
              have HEA : Hid (∀ W, Below wr.heap.size wr W → Calls Try.prog 19 #[.pointer (some ⟨D 0, 0, none⟩)] W fun e w' => ∃ A cap G, e = .returned (.slice A 2 cap) ∧ RdI w' w'.heap.size A 2 G ∧ atZ G 1 = x1 ∧ Below W.heap.size W w') := Lib.hid fun W hW => (PEst_x (HC.out.ok 0 (by omega)) ((HS.out.l.live 0 (by omega)).over hW)).mono fun e w' hh => by
                obtain ⟨A, cap, h1, h2, h3⟩ := hh.rd
                have hl : (estL (c 0) (s.d 0)).length = 2 := by simp [estL, HC.out.n 0 (by omega)]
                rw [hl] at h1 h2
                refine ⟨A, cap, _, h1, h2, ?_, h3⟩
                rw [← (HBT.out rfl).1]
                unfold atZ
                rw [if_neg (by decide), if_neg (by rw [hl]; decide)]
                simp [estL, List.getD, HC.out.n 0 (by omega)]
              have HEB : Hid (∀ W, Below wr.heap.size wr W → Calls Try.prog 19 #[.pointer (some ⟨D 1, 0, none⟩)] W fun e w' => ∃ A cap G, e = .returned (.slice A 2 cap) ∧ RdI w' w'.heap.size A 2 G ∧ atZ G 0 = x0 ∧ Below W.heap.size W w') := Lib.hid fun W hW => (PEst_x (HC.out.ok 1 (by omega)) ((HS.out.l.live 1 (by omega)).over hW)).mono fun e w' hh => by
                obtain ⟨A, cap, h1, h2, h3⟩ := hh.rd
                have hl : (estL (c 1) (s.d 1)).length = 2 := by simp [estL, HC.out.n 1 (by omega)]
                rw [hl] at h1 h2
                refine ⟨A, cap, _, h1, h2, ?_, h3⟩
                rw [← (HBT.out rfl).2]
                unfold atZ
                rw [if_neg (by decide), if_neg (by rw [hl]; decide)]
                simp [estL, List.getD, HC.out.n 1 (by omega)]
              have ex0 : (x0 == x0) = true := by simp
              have ex1 : (x1 == x1) = true := by simp
              refine wpAnyH_take (i := 0) (oi := ?oi0z) (v := ?v0z) ?hi0z (by kernel_rfl) (by kernel_rfl) (by kernel_rfl) ?hq0z ?hy0z (by assumption) ?rest0z
              case hi0z => (simp only [List.getElem?_toArray, List.getElem?_cons_zero]; rfl)
              case hy0z => (refine Or.inl ⟨by rfl, ?_⟩; intro w hSw; (try dsimp only at hSw); go_simp; try with_reducible rfl)
              case hq0z => exact fun _ _ _ h => h
              try simp only [Act.put, List.setIfInBounds_toArray, List.set_cons_zero, List.set_cons_succ]
              refine wpAnyH_take (i := 1) (oi := ?oi1z) (v := ?v1z) ?hi1z (by kernel_rfl) (by kernel_rfl) (by kernel_rfl) ?hq1z ?hy1z (by assumption) ?rest1z
              case hi1z => (simp only [List.getElem?_toArray, List.getElem?_cons_zero, List.getElem?_cons_succ]; rfl)
              case hy1z => (refine Or.inl ⟨by rfl, ?_⟩; intro w hSw; (try dsimp only at hSw); go_simp; try with_reducible rfl)
              case hq1z => exact fun _ _ _ h => h
              try simp only [Act.put, List.setIfInBounds_toArray, List.set_cons_zero, List.set_cons_succ]
              refine wpAnyH_take (i := 2) (oi := ?oi2z) (v := ?v2z) ?hi2z (by kernel_rfl) (by kernel_rfl) (by kernel_rfl) ?hq2z ?hy2z (by assumption) ?rest2z
              case hi2z => (simp only [List.getElem?_toArray, List.getElem?_cons_zero, List.getElem?_cons_succ]; rfl)
              case hy2z => (refine Or.inl ⟨by rfl, ?_⟩; intro w hSw; (try dsimp only at hSw); go_simp; try with_reducible rfl)
              case hq2z => exact fun _ _ _ h => h
              try simp only [Act.put, List.setIfInBounds_toArray, List.set_cons_zero, List.set_cons_succ]
              refine wpAnyH_take (i := 5) (oi := ?oi5z) (v := ?v5z) ?hi5z (by kernel_rfl) (by kernel_rfl) (by kernel_rfl) ?hq5z ?hy5z (by assumption) ?rest5z
              case hi5z => (simp only [List.getElem?_toArray, List.getElem?_cons_zero, List.getElem?_cons_succ]; rfl)
              case hy5z => (refine Or.inl ⟨by rfl, ?_⟩; intro w hSw; (try dsimp only at hSw); go_simp; try with_reducible rfl)
              case hq5z => exact fun _ _ _ h => h
              try simp only [Act.put, List.setIfInBounds_toArray, List.set_cons_zero, List.set_cons_succ]
              refine wpAnyH_take (i := 6) (oi := ?oi6z) (v := ?v6z) ?hi6z (by kernel_rfl) (by kernel_rfl) (by kernel_rfl) ?hq6z ?hy6z (by assumption) ?rest6z
              case hi6z => (simp only [List.getElem?_toArray, List.getElem?_cons_zero, List.getElem?_cons_succ]; rfl)
              case hy6z => (refine Or.inl ⟨by rfl, ?_⟩; intro w hSw; (try dsimp only at hSw); go_simp; try with_reducible rfl)
              case hq6z => exact fun _ _ _ h => h
              try simp only [Act.put, List.setIfInBounds_toArray, List.set_cons_zero, List.set_cons_succ]
              refine wpAnyH_ready (rs := [3]) (by kernel_rfl) (by simp) ?_
              refine AllReadyH.cons (o := ?o3z) ?ho3z (fun K hK => ?st3z) ?mo3z
              case ho3z => (simp only [List.getElem?_toArray, List.getElem?_cons_zero, List.getElem?_cons_succ]; rfl)
              · skip
                go_simp
                refine (HEA.out wd HBD.out).mono ?_
                rintro _ wa ⟨A1, ca1, G1, rfl, hra, hga, hba⟩
                have hb9a := HBD.out.trans (hba.mono HBD.out.size)
                have ha1 := at_any A1 2 ca1 G1 1 wa hra
                rw [hga] at ha1
                have HA1 := Lib.hid ha1
                have HBA := Lib.hid hb9a
                clear hra hba hb9a ha1 hga
                go_simp
                refine hK.out _ _ (HXT.out _ HBA.out) (fun _ => ?_)
                clear hK K
                try simp only [Act.put, List.setIfInBounds_toArray, List.set_cons_zero, List.set_cons_succ]
                refine wpAnyH_ready (rs := [4]) (by kernel_rfl) (by simp) ?_
                refine AllReadyH.cons (o := ?o4z) ?ho4z (fun K hK => ?st4z) ?mo4z
                case ho4z => (simp only [List.getElem?_toArray, List.getElem?_cons_zero, List.getElem?_cons_succ]; rfl)
                · skip
                  go_simp
                  refine HA1.out.mono ?_
                  rintro _ _ ⟨rfl, rfl⟩
                  go_simp
                  refine hK.out _ _ (HXT.out _ HBA.out) (fun _ => ?_)
                  clear hK K
                  try simp only [Act.put, List.setIfInBounds_toArray, List.set_cons_zero, List.set_cons_succ]
                  refine wpAnyH_take (i := 7) (oi := ?oi7z) (v := ?v7z) ?hi7z (by kernel_rfl) (by kernel_rfl) (by kernel_rfl) ?hq7z ?hy7z (by assumption) ?rest7z
                  case hi7z => (simp only [List.getElem?_toArray, List.getElem?_cons_zero, List.getElem?_cons_succ]; rfl)
                  case hy7z => (refine Or.inl ⟨by rfl, ?_⟩; intro w hSw; (try dsimp only at hSw); go_simp; try with_reducible rfl)
                  case hq7z => exact fun _ _ _ h => h
                  try simp only [Act.put, List.setIfInBounds_toArray, List.set_cons_zero, List.set_cons_succ]
                  refine wpAnyH_take (i := 8) (oi := ?oi8z) (v := ?v8z) ?hi8z (by kernel_rfl) (by kernel_rfl) (by kernel_rfl) ?hq8z ?hy8z (by assumption) ?rest8z
                  case hi8z => (simp only [List.getElem?_toArray, List.getElem?_cons_zero, List.getElem?_cons_succ]; rfl)
                  case hy8z => (refine Or.inl ⟨by rfl, ?_⟩; intro w hSw; (try dsimp only at hSw); go_simp; try with_reducible rfl)
                  case hq8z => exact fun _ _ _ h => h
                  try simp only [Act.put, List.setIfInBounds_toArray, List.set_cons_zero, List.set_cons_succ]
                  refine wpAnyH_take (i := 9) (oi := ?oi9z) (v := ?v9z) ?hi9z (by kernel_rfl) (by kernel_rfl) (by kernel_rfl) ?hq9z ?hy9z (by assumption) ?rest9z
                  case hi9z => (simp only [List.getElem?_toArray, List.getElem?_cons_zero, List.getElem?_cons_succ]; rfl)
                  case hy9z => (refine Or.inl ⟨by rfl, ?_⟩; intro w hSw; (try dsimp only at hSw); go_simp; try with_reducible rfl)
                  case hq9z => exact fun _ _ _ h => h
                  try simp only [Act.put, List.setIfInBounds_toArray, List.set_cons_zero, List.set_cons_succ]
                  refine wpAnyH_take (i := 12) (oi := ?oi12z) (v := ?v12z) ?hi12z (by kernel_rfl) (by kernel_rfl) (by kernel_rfl) ?hq12z ?hy12z (by assumption) ?rest12z
                  case hi12z => (simp only [List.getElem?_toArray, List.getElem?_cons_zero, List.getElem?_cons_succ]; rfl)
                  case hy12z => (refine Or.inl ⟨by rfl, ?_⟩; intro w hSw; (try dsimp only at hSw); go_simp; try with_reducible rfl)
                  case hq12z => exact fun _ _ _ h => h
                  try simp only [Act.put, List.setIfInBounds_toArray, List.set_cons_zero, List.set_cons_succ]
                  refine wpAnyH_take (i := 13) (oi := ?oi13z) (v := ?v13z) ?hi13z (by kernel_rfl) (by kernel_rfl) (by kernel_rfl) ?hq13z ?hy13z (by assumption) ?rest13z
                  case hi13z => (simp only [List.getElem?_toArray, List.getElem?_cons_zero, List.getElem?_cons_succ]; rfl)
                  case hy13z => (refine Or.inl ⟨by rfl, ?_⟩; intro w hSw; (try dsimp only at hSw); go_simp; try with_reducible rfl)
                  case hq13z => exact fun _ _ _ h => h
                  try simp only [Act.put, List.setIfInBounds_toArray, List.set_cons_zero, List.set_cons_succ]
                  refine wpAnyH_ready (rs := [10]) (by kernel_rfl) (by simp) ?_
                  refine AllReadyH.cons (o := ?o10z) ?ho10z (fun K hK => ?st10z) ?mo10z
                  case ho10z => (simp only [List.getElem?_toArray, List.getElem?_cons_zero, List.getElem?_cons_succ]; rfl)
                  · skip
                    go_simp
                    refine (HEB.out wa HBA.out).mono ?_
                    rintro _ we ⟨A2, ca2, G2, rfl, hre, hge, hbe⟩
                    have hb9e := HBA.out.trans (hbe.mono HBA.out.size)
                    have ha2 := at_any A2 2 ca2 G2 0 we hre
                    rw [hge] at ha2
                    have HA2 := Lib.hid ha2
                    have HBE := Lib.hid hb9e
                    clear hre hbe hb9e ha2 hge
                    go_simp
                    refine hK.out _ _ (HXT.out _ HBE.out) (fun _ => ?_)
                    clear hK K
                    try simp only [Act.put, List.setIfInBounds_toArray, List.set_cons_zero, List.set_cons_succ]
                    refine wpAnyH_ready (rs := [11]) (by kernel_rfl) (by simp) ?_
                    refine AllReadyH.cons (o := ?o11z) ?ho11z (fun K hK => ?st11z) ?mo11z
                    case ho11z => (simp only [List.getElem?_toArray, List.getElem?_cons_zero, List.getElem?_cons_succ]; rfl)
                    · skip
                      go_simp
                      refine HA2.out.mono ?_
                      rintro _ _ ⟨rfl, rfl⟩
                      go_simp
                      refine hK.out _ _ (HXT.out _ HBE.out) (fun _ => ?_)
                      clear hK K
                      try simp only [Act.put, List.setIfInBounds_toArray, List.set_cons_zero, List.set_cons_succ]
                      refine wpAnyH_take (i := 14) (oi := ?oi14z) (v := ?v14z) ?hi14z (by kernel_rfl) (by kernel_rfl) (by kernel_rfl) ?hq14z ?hy14z (by assumption) ?rest14z
                      case hi14z => (simp only [List.getElem?_toArray, List.getElem?_cons_zero, List.getElem?_cons_succ]; rfl)
                      case hy14z => (refine Or.inl ⟨by rfl, ?_⟩; intro w hSw; (try dsimp only at hSw); go_simp; try with_reducible rfl)
                      case hq14z => exact fun _ _ _ h => h
                      try simp only [Act.put, List.setIfInBounds_toArray, List.set_cons_zero, List.set_cons_succ]
                      refine wpAnyH_take (i := 15) (oi := ?oi15z) (v := ?v15z) ?hi15z (by kernel_rfl) (by kernel_rfl) (by kernel_rfl) ?hq15z ?hy15z (by assumption) ?rest15z
                      case hi15z => (simp only [List.getElem?_toArray, List.getElem?_cons_zero, List.getElem?_cons_succ]; rfl)
                      case hy15z => (refine Or.inl ⟨by rfl, ?_⟩; intro w hSw; (try dsimp only at hSw); go_simp; try with_reducible rfl)
                      case hq15z => exact fun _ _ _ h => h
                      try simp only [Act.put, List.setIfInBounds_toArray, List.set_cons_zero, List.set_cons_succ]
                      refine wpAnyH_take (i := 16) (oi := ?oi16z) (v := ?v16z) ?hi16z (by kernel_rfl) (by kernel_rfl) (by kernel_rfl) ?hq16z ?hy16z (by assumption) ?rest16z
                      case hi16z => (simp only [List.getElem?_toArray, List.getElem?_cons_zero, List.getElem?_cons_succ]; rfl)
                      case hy16z => (refine Or.inl ⟨by rfl, ?_⟩; intro w hSw; (try dsimp only at hSw); go_simp; try with_reducible rfl)
                      case hq16z => exact fun _ _ _ h => h
                      try simp only [Act.put, List.setIfInBounds_toArray, List.set_cons_zero, List.set_cons_succ]
                      refine wpAnyH_take (i := 17) (oi := ?oi17z) (v := ?v17z) ?hi17z (by kernel_rfl) (by kernel_rfl) (by kernel_rfl) ?hq17z ?hy17z (by assumption) ?rest17z
                      case hi17z => (simp only [List.getElem?_toArray, List.getElem?_cons_zero, List.getElem?_cons_succ]; rfl)
                      case hy17z => (refine Or.inl ⟨by rfl, ?_⟩; intro w hSw; (try dsimp only at hSw); go_simp; try with_reducible rfl)
                      case hq17z => exact fun _ _ _ h => h
                      try simp only [Act.put, List.setIfInBounds_toArray, List.set_cons_zero, List.set_cons_succ]
                      refine wpAnyH_done (by kernel_rfl) ?_ _
                      go_wp2
                      go_ret
                      exact ⟨rfl, HFR.out _ HBE.out⟩
                    · exact AllReadyH.nil
                  · exact AllReadyH.nil
                · exact AllReadyH.nil
              · exact AllReadyH.nil
    · have HA : Hid (Calls Try.prog 10 #[.agg #[.int .i64 2, .int .i64 0, .int .i64 x0, .int .i64 x2, .int .i64 x3, .int .i64 x4, .slice none 0 0]] w1 (BeganP w1 (cfM x0 x1 x2 x3 x4 0) 0)) := Lib.hid (began_yes (cfM_ok0 okA) none 0 0 w1.heap.size (Nat.le_refl _) (by omega) (Nat.le_refl _) (Lib.hid fun h => absurd h (by omega)))
      have HB := Lib.hid fun (W : World) => began_no (w := W) 2 1 x1 x2 x3 x4 okB (by omega) (by omega) none 0 0
      clear okA okB
      go_wp2_with fail
      refine HA.out.mono ?_
      rintro _ w2 ⟨D0, F0, d0, m0, rfl, hL0, hm0, _, hd0⟩
      have hX2 := HBX.out w2 hL0.below
      have p1 : w2.cell? ⟨w.heap.size, 1, none⟩ = some (.int .i64 x1) := hX2.cell 1
      have p2 : w2.cell? ⟨w.heap.size, 2, none⟩ = some (.int .i64 x2) := hX2.cell 2
      have p3 : w2.cell? ⟨w.heap.size, 3, none⟩ = some (.int .i64 x3) := hX2.cell 3
      have p4 : w2.cell? ⟨w.heap.size, 4, none⟩ = some (.int .i64 x4) := hX2.cell 4
      have HB2 := Lib.hid (HB1.out.trans (hL0.below.mono HB1.out.size))
      clear hX2 hL0 hm0 hd0 q0 q1 q2 q3 q4
      go_wp2_with fail
      refine (HB.out w2).mono ?_
      rintro _ w3 ⟨rfl, hb3⟩
      have HB3 := Lib.hid (HB2.out.trans (hb3.mono HB2.out.size))
      clear hb3 p1 p2 p3 p4
      go_wp2
      go_ret
      exact ⟨rfl, HB3.out⟩
  · have HA := Lib.hid fun (W : World) => began_no (w := W) 2 0 x0 x2 x3 x4 okA (by omega) (by omega) none 0 0
    have HB : Hid (∀ W, Calls Try.prog 10 #[.agg #[.int .i64 2, .int .i64 1, .int .i64 x1, .int .i64 x2, .int .i64 x3, .int .i64 x4, .slice none 0 0]] W fun e w' => (∃ v, e = .returned (.tuple #[v, .bool true])) ∧ Below W.heap.size W w') := Lib.hid fun W => by
      by_cases okB : NewOk 2 1 x1 x2 x3 x4
      · exact (began_yes (c := cfM x0 x1 x2 x3 x4 1) (cfM_ok1 okB) none 0 0 W.heap.size (Nat.le_refl _) (by omega) (Nat.le_refl _) (Lib.hid fun h => absurd h (by omega))).mono fun e w' hh => by
          obtain ⟨D, F, d, m, h1, h2, _⟩ := hh
          exact ⟨⟨_, h1⟩, h2.below⟩
      · exact (began_no (w := W) 2 1 x1 x2 x3 x4 okB (by omega) (by omega) none 0 0).mono fun e w' hh => ⟨⟨_, hh.1⟩, hh.2⟩
    clear okA
    go_wp2_with fail
    refine (HA.out w1).mono ?_
    rintro _ w2 ⟨rfl, hb2⟩
    have hX2 := HBX.out w2 hb2
    have p1 : w2.cell? ⟨w.heap.size, 1, none⟩ = some (.int .i64 x1) := hX2.cell 1
    have p2 : w2.cell? ⟨w.heap.size, 2, none⟩ = some (.int .i64 x2) := hX2.cell 2
    have p3 : w2.cell? ⟨w.heap.size, 3, none⟩ = some (.int .i64 x3) := hX2.cell 3
    have p4 : w2.cell? ⟨w.heap.size, 4, none⟩ = some (.int .i64 x4) := hX2.cell 4
    have HB2 := Lib.hid (HB1.out.trans (hb2.mono HB1.out.size))
    clear hX2 hb2 q0 q1 q2 q3 q4
    go_wp2_with fail
    refine (HB.out w2).mono ?_
    rintro _ w3 ⟨⟨vv, rfl⟩, hb3⟩
    have HB3 := Lib.hid (HB2.out.trans (hb3.mono HB2.out.size))
    clear hb3 p1 p2 p3 p4
    go_wp2
    go_ret
    exact ⟨rfl, HB3.out⟩
end Go.Proofs.Ytfjpmoigpnmeoaa
