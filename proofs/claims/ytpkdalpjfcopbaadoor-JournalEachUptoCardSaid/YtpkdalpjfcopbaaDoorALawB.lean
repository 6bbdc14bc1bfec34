/-
  JournalApplies: the law's first steps, plainly.
-/
import Derived.Test.YtpkdalpjfcopbaaDoorALawA
import Derived.Test.YtpkdalpjfcopbaaDoorBulk
namespace Go.Proofs.YtpkdalpjfcopbaaDoor
open Go.ChangeShapes Go.WideShapes Go.ChangeAt Go.RowKit
theorem FitU.Write {H : Type} {enc : TypeId × Value → H} {W : World} {cs : List Value} {d : DataW H} (h : FitU enc Tryd.prog W 94 cs d) :
    ∃ (x0 : Int) (x1 : Bool) (A2 : Option Addr) (n2 k2 : Nat) (x2 : List UInt8), cs = [.int .i64 x0, .bool x1, .slice A2 n2 k2] ∧ -9223372036854775808 ≤ x0 ∧ x0 ≤ 9223372036854775807 ∧ n2 ≤ 1048576 ∧ n2 ≤ k2 ∧ k2 ≤ 140737488351232 ∧ RdB W W.heap.size A2 n2 x2 := by
  have hl := FitU.structLen Tryd.underlying94 h (by kernel_rfl : Tryd.prog.cellsOf 94 = 3)
  match cs, hl, h with
  | [c0, c1, c2], _, h =>
  obtain ⟨df_0, f_0⟩ : ∃ di, FitU enc Tryd.prog W 3 [c0] di := FitU.fld (T := 3) (o := 0) (z := 1) Tryd.underlying94 h 0 rfl rfl rfl (by kernel_rfl)
  obtain ⟨x0, e0, b0, t0⟩ := f_0.i64 Tryd.underlying3
  obtain rfl : c0 = .int .i64 x0 := (List.cons.inj e0).1
  obtain ⟨df_1, f_1⟩ : ∃ di, FitU enc Tryd.prog W 4 [c1] di := FitU.fld (T := 4) (o := 1) (z := 1) Tryd.underlying94 h 1 rfl rfl rfl (by kernel_rfl)
  obtain ⟨x1, e1⟩ := f_1.bool_ Tryd.underlying4
  obtain rfl : c1 = .bool x1 := (List.cons.inj e1).1
  obtain ⟨df_2, f_2⟩ : ∃ di, FitU enc Tryd.prog W 22 [c2] di := FitU.fld (T := 22) (o := 2) (z := 1) Tryd.underlying94 h 2 rfl rfl rfl (by kernel_rfl)
  obtain ⟨A2, n2, k2, x2, e2, u2, p2, q2, r2⟩ := f_2.bytes Tryd.underlying22 Tryd.underlying5 (by kernel_rfl) (by kernel_rfl)
  obtain rfl : c2 = .slice A2 n2 k2 := (List.cons.inj e2).1
  exact ⟨x0, x1, A2, n2, k2, x2, rfl, b0, t0, u2, p2, q2, r2⟩
theorem FitU.Disk {H : Type} {enc : TypeId × Value → H} {W : World} {cs : List Value} {d : DataW H} (h : FitU enc Tryd.prog W 24 cs d) :
    ∃ (A0 : Option Addr) (n0 k0 : Nat) (x0 : List UInt8) (A1 : Option Addr) (n1 k1 : Nat) (x1 : List UInt8), cs = [.slice A0 n0 k0, .slice A1 n1 k1] ∧ n0 ≤ 1048576 ∧ n0 ≤ k0 ∧ k0 ≤ 140737488351232 ∧ RdB W W.heap.size A0 n0 x0 ∧ n1 ≤ 1048576 ∧ n1 ≤ k1 ∧ k1 ≤ 140737488351232 ∧ RdB W W.heap.size A1 n1 x1 := by
  have hl := FitU.structLen Tryd.underlying24 h (by kernel_rfl : Tryd.prog.cellsOf 24 = 2)
  match cs, hl, h with
  | [c0, c1], _, h =>
  obtain ⟨df_0, f_0⟩ : ∃ di, FitU enc Tryd.prog W 22 [c0] di := FitU.fld (T := 22) (o := 0) (z := 1) Tryd.underlying24 h 0 rfl rfl rfl (by kernel_rfl)
  obtain ⟨A0, n0, k0, x0, e0, u0, p0, q0, r0⟩ := f_0.bytes Tryd.underlying22 Tryd.underlying5 (by kernel_rfl) (by kernel_rfl)
  obtain rfl : c0 = .slice A0 n0 k0 := (List.cons.inj e0).1
  obtain ⟨df_1, f_1⟩ : ∃ di, FitU enc Tryd.prog W 22 [c1] di := FitU.fld (T := 22) (o := 1) (z := 1) Tryd.underlying24 h 1 rfl rfl rfl (by kernel_rfl)
  obtain ⟨A1, n1, k1, x1, e1, u1, p1, q1, r1⟩ := f_1.bytes Tryd.underlying22 Tryd.underlying5 (by kernel_rfl) (by kernel_rfl)
  obtain rfl : c1 = .slice A1 n1 k1 := (List.cons.inj e1).1
  exact ⟨A0, n0, k0, x0, A1, n1, k1, x1, rfl, u0, p0, q0, r0, u1, p1, q1, r1⟩
theorem aws_open {H : Type} {enc : TypeId × Value → H} {W : World} {Av : Option Addr} {n : Nat} {es : List (List Value)} (hn : n ≤ 1048576) (hl : es.length = n) (hr : Rd W W.heap.size 3 Av n es.flatten) (hes : ∀ y ∈ es, y.length = 3 ∧ ∃ d, FitU enc Tryd.prog W 94 y d) :
    ∃ ws, WsAt W Av n ws ∧ costW ws ≤ 4398046511104 ∧ ∀ x ∈ ws, x.bs.length ≤ 1048576 := by
  have hone : ∀ y ∈ es, ∃ x : Wr, ∃ bA bc, y = [.int .i64 x.file, .bool x.start, .slice bA x.bs.length bc] ∧ RdB W W.heap.size bA x.bs.length x.bs ∧ x.bs.length ≤ bc ∧ x.bs.length ≤ 1048576 := fun y hy => by
    obtain ⟨_, d, hd⟩ := hes y hy
    obtain ⟨x0, x1, A2, n2, k2, x2, hcs, b0, t0, u2, p2, q2, r2⟩ := FitU.Write hd
    obtain rfl := r2.lenB
    exact ⟨⟨x0, x1, x2⟩, A2, k2, hcs, r2, p2, u2⟩
  obtain ⟨ws, hlw, hws⟩ := list_choose es hone
  have hmem : ∀ x ∈ ws, x.bs.length ≤ 1048576 := fun x hx => by
    obtain ⟨k, hk⟩ := List.mem_iff_getElem?.1 hx
    obtain ⟨y, _, _, _, _, _, _, h⟩ := hws k x hk
    exact h
  have hcost : ∀ l : List Wr, (∀ x ∈ l, x.bs.length ≤ 1048576) → costW l ≤ l.length * 1048577 := fun l => by
    induction l with
    | nil => intro _; simp [costW]
    | cons x l ih =>
      intro h
      rw [costW_cons, List.length_cons, Nat.succ_mul]
      have h1 := ih fun z hz => h z (by simp [hz])
      have h2 := h x (by simp)
      have h3 : x.cost ≤ 1048577 := by
        unfold Wr.cost
        repeat' split
        all_goals omega
      omega
  refine ⟨ws, ⟨by omega, fun k x hk => ?_⟩, ?_, hmem⟩
  · obtain ⟨y, hy, bA, bc, he, h1, h2, _⟩ := hws k x hk
    have hlt := (List.getElem?_eq_some_iff.1 hk).1
    obtain ⟨b, off, rfl, hb, hc⟩ := hr.at_ (by omega)
    have hall := flat_at (z := 3) (es := es) (fun x hx => (hes x hx).1) k
    have hg := fun (j : Nat) (u : Value) (hj : j < 3) (hu : y[j]? = some u) => hc (k * 3 + j) u ((hall j hj).trans (by rw [hy]; exact hu))
    have a0 := hg 0 _ (by omega) (by rw [he]; rfl)
    have a1 := hg 1 _ (by omega) (by rw [he]; rfl)
    have a2 := hg 2 _ (by omega) (by rw [he]; rfl)
    rw [← Nat.add_assoc] at a1 a2
    exact ⟨b, off, bA, bc, rfl, hb, a0, a1, a2, h1, h2⟩
  · have h1 := hcost ws hmem
    have h2 : ws.length * 1048577 ≤ 1048576 * 1048577 := Nat.mul_le_mul_right _ (by omega)
    omega
/-- The two copies and their box, as they come. -/
structure P1 (w w0 W : World) (f : Fls) (a b : Option (Nat × Nat)) (d : Option Nat) : Prop where
  bw : Below w.heap.size w w0
  b0 : Below w0.heap.size w0 W
  sa : ∀ g p, a = some (g, p) → SpAt W g p f.a ∧ w0.heap.size ≤ g
  sb : ∀ g p, b = some (g, p) → SpAt W g p f.b ∧ w0.heap.size ≤ g
  od : ∀ D, d = some D → Blk W D 24 #[.slice none 0 0, .slice none 0 0] ∧ w0.heap.size ≤ D
  ab : ∀ g p g' p', a = some (g, p) → b = some (g', p') → g ≠ g'
section
variable {w w0 W w' : World} {f : Fls} {a b : Option (Nat × Nat)} {d : Option Nat}
theorem P1.spA {g p : Nat} (h : P1 w w0 W f none b d) (hb : Below W.heap.size W w') (hg : W.heap.size ≤ g) (hs : SpAt w' g p f.a) : P1 w w0 w' f (some (g, p)) b d := by
  refine ⟨h.bw, h.b0.trans (hb.mono h.b0.size), fun g' p' e => ?_, fun g' p' e => ⟨(h.sb g' p' e).1.over hb, (h.sb g' p' e).2⟩, fun D e => ⟨(h.od D e).1.over hb, (h.od D e).2⟩, fun g1 p1 g2 p2 e1 e2 => ?_⟩
  · injection e with e
    injection e with e1 e2
    subst e1 e2
    exact ⟨hs, Nat.le_trans h.b0.size hg⟩
  · injection e1 with e1
    injection e1 with e1 _
    obtain ⟨cur, hB⟩ := (h.sb g2 p2 e2).1.blk
    have := hB.lt
    omega
theorem P1.spB {g p : Nat} (h : P1 w w0 W f a none d) (hb : Below W.heap.size W w') (hg : W.heap.size ≤ g) (hs : SpAt w' g p f.b) : P1 w w0 w' f a (some (g, p)) d := by
  refine ⟨h.bw, h.b0.trans (hb.mono h.b0.size), fun g' p' e => ⟨(h.sa g' p' e).1.over hb, (h.sa g' p' e).2⟩, fun g' p' e => ?_, fun D e => ⟨(h.od D e).1.over hb, (h.od D e).2⟩, fun g1 p1 g2 p2 e1 e2 => ?_⟩
  · injection e with e
    injection e with e1 e2
    subst e1 e2
    exact ⟨hs, Nat.le_trans h.b0.size hg⟩
  · injection e2 with e2
    injection e2 with e2 _
    obtain ⟨cur, hB⟩ := (h.sa g1 p1 e1).1.blk
    have := hB.lt
    omega
theorem P1.box (h : P1 w w0 W f a b none) : P1 w w0 (W.alloc (.cells #[.slice none 0 0, .slice none 0 0] 24)) f a b (some W.heap.size) := by
  have hb := one_box' W (.cells #[.slice none 0 0, .slice none 0 0] 24)
  refine ⟨h.bw, h.b0.trans (hb.mono h.b0.size), fun g p e => ⟨(h.sa g p e).1.over hb, (h.sa g p e).2⟩, fun g p e => ⟨(h.sb g p e).1.over hb, (h.sb g p e).2⟩, fun D e => ?_, h.ab⟩
  injection e with e
  subst e
  exact ⟨Blk.new W _ _, h.b0.size⟩
theorem P1.fin {ga pa gb pb D : Nat} {DA DB : Option Addr} {ca cb : Nat} (h : P1 w w0 W f (some (ga, pa)) (some (gb, pb)) (some D)) (hX : Blk w0 w.heap.size 24 #[.slice DA f.a.length ca, .slice DB f.b.length cb]) :
    Pre w DA DB ca cb f D ga gb pa pb ((W.setCell ⟨D, 0, none⟩ (.slice (some ⟨ga, 0, none⟩) f.a.length pa)).setCell ⟨D, 1, none⟩ (.slice (some ⟨gb, 0, none⟩) f.b.length pb)) := by
  obtain ⟨hD, hDw⟩ := h.od D rfl
  obtain ⟨hA, hAw⟩ := h.sa ga pa rfl
  obtain ⟨hB, hBw⟩ := h.sb gb pb rfl
  have hc : ∀ u v, Chg (fun k => k = D) W ((W.setCell ⟨D, 0, none⟩ u).setCell ⟨D, 1, none⟩ v) := fun u v => ((Chg.refl (fun k => k = D) W).setCell (p := ⟨D, 0, none⟩) (.inl rfl) u).setCell (p := ⟨D, 1, none⟩) (.inl rfl) v
  have nr : ∀ {g p : Nat} {bs : List UInt8}, SpAt W g p bs → ¬ g = D := fun hs e => by
    obtain ⟨cur, hB⟩ := hs.blk
    subst e
    exact hB.ne_ hD (by decide) rfl
  have hs := h.bw.size
  have hlt := hX.lt
  exact ⟨(hX.over h.b0).chg (hc _ _) (fun e => by omega), (hD.set_ 0 _).set_ 1 _, hA.chg (hc _ _) (nr hA), hB.chg (hc _ _) (nr hB), ⟨by omega, by omega, h.ab ga pa gb pb rfl rfl⟩,
    (h.bw.trans (h.b0.mono hs)).trans ((hc _ _).to_below (Nat.le_trans hs h.b0.size) fun k e => by omega)⟩
end
/-- What an append to the list of writes may turn: none of the law's own. -/
theorem row_apart {w : World} {base n : Nat} {v : Value} {xs : List Value} (ho : w.ownsRow base 94 3 v n xs) {g t : Nat} {cs : Array Value} (hB : Blk w g t cs) (ht : t ≠ 94) : ¬ some g = v.ownBlock := fun e => by
  obtain ⟨_, _, cur, hC⟩ := own_block_lt ho e.symm
  exact hB.ne_ hC ht rfl
theorem Pre.row {w wr w' : World} {DA DB : Option Addr} {ca cb : Nat} {f : Fls} {C ga gb pa pb : Nat} (h : Pre w DA DB ca cb f C ga gb pa pb wr) {base n : Nat} {v : Value} {xs : List Value} (ho : wr.ownsRow base 94 3 v n xs) (hbase : w.heap.size ≤ base)
    (hc : Chg (fun k => some k = v.ownBlock) wr w') : Pre w DA DB ca cb f C ga gb pa pb w' := by
  obtain ⟨cua, hBa⟩ := h.sa.blk
  obtain ⟨cub, hBb⟩ := h.sb.blk
  exact ⟨h.x0.chg hc (row_apart ho h.x0 (by decide)), h.c.chg hc (row_apart ho h.c (by decide)), h.sa.chg hc (row_apart ho hBa (by decide)), h.sb.chg hc (row_apart ho hBb (by decide)), h.ge,
    h.bw.trans (hc.to_below h.bw.size fun k e => Nat.le_trans hbase (own_block_lt ho e.symm).2.1)⟩
theorem RowsU.row {B u : Nat} {K : List Rw} {w w' : World} (h : RowsU B K u w) {base n : Nat} {v : Value} {xs : List Value} (ho : w.ownsRow base 94 3 v n xs) (hc : Chg (fun k => some k = v.ownBlock) w w') : RowsU B K u w' :=
  h.chg hc fun k r hk => by
    by_cases hu : u ≤ k
    · obtain ⟨cur, hB⟩ := (h.sp k r hk hu).blk
      exact row_apart ho hB (by decide)
    · obtain ⟨cur, hB⟩ := (h.fu k r hk (by omega)).blk
      exact row_apart ho hB (by decide)
end Go.Proofs.YtpkdalpjfcopbaaDoor
