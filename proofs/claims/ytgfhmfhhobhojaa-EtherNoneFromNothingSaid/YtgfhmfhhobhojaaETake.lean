/-
  The program's network: Take.
-/
import Derived.Test.YtgfhmfhhobhojaaEInj
namespace Go.Proofs.Ytgfhmfhhobhojaa
open Go.ChangeShapes Go.WideShapes Go.ChangeAt Go.RowKit
variable {w : World} {F : Nat → Prop} {c : ECfg} {D : Nat} {p : PV} {m : Nat}
def goneE (c : ECfg) (p : PV) (f : Flt) : Int := if openB c p.shut (f.src : Int) (f.dst : Int) = true then (if upA c p.down (f.dst : Int) = true then 0 else 32) else 30
def TakeNo (w : World) (F : Nat → Prop) (c : ECfg) (D : Nat) (p : PV) (m : Nat) (err : Int) (e : Ending) (w' : World) : Prop :=
  e = .returned (.tuple #[.agg #[.int .i64 0, .int .i64 0, .int .i64 0, .int .i64 0, .slice none 0 0], .int .i64 err]) ∧ PNx w' F c D p m ∧ Below w.heap.size w w'
def TakeYes (w : World) (F : Nat → Prop) (c : ECfg) (D : Nat) (p : PV) (m : Nat) (k : Nat) (f : Flt) (e : Ending) (w' : World) : Prop :=
  ∃ y, e = .returned (.tuple #[.agg #[.int .i64 (f.id : Int), .int .i64 (f.src : Int), .int .i64 (f.dst : Int), .int .i64 (f.due : Int), .slice (some ⟨y, 0, none⟩) f.bs.length f.bs.length], .int .i64 0]) ∧ PNx w' F c D { p with way := p.way.eraseIdx k } m ∧ Blk w' y 5 (bvs f.bs).toArray ∧ Chg F w w' ∧ F y
set_option maxRecDepth 100000 in
set_option maxHeartbeats 3200000 in
theorem Take_none (_hc : c.Ok) (h : PNx w F c D p m) (_hf : Fine p m) (a : Int) (hno : a < 0 ∨ (p.way.length : Int) ≤ a) : Calls Try.prog 38 #[.pointer (some ⟨D, 0, none⟩), .int .i64 a] w (TakeNo w F c D p m 34) := by
  have hb0 := one_box' w (.cells #[.int .i64 0, .int .i64 0, .int .i64 0, .int .i64 0, .slice none 0 0] 48)
  have hZ := Blk.new w 48 #[.int .i64 0, .int .i64 0, .int .i64 0, .int .i64 0, .slice none 0 0]
  obtain ⟨w0, hw0⟩ : ∃ w0, w0 = w.alloc (.cells #[.int .i64 0, .int .i64 0, .int .i64 0, .int .i64 0, .slice none 0 0] 48) := ⟨_, rfl⟩
  rw [← hw0] at hb0 hZ
  have HW0 := Lib.hid hw0
  have hs0 := hb0.size
  have hp0 := h.below hb0
  have HB0 := Lib.hid hb0
  have HP := Lib.hid h
  obtain ⟨hF1, P, S, L, v, X, hP⟩ := hp0
  obtain ⟨A6, cap6, rfl, hcp6, hcm6⟩ := own_shape hP.row
  have c6 : w0.cell? ⟨D, 6, none⟩ = some (.slice A6 X.length cap6) := hP.blk.cell 6
  rw [hP.len] at hno
  have q0 : w0.cell? ⟨w.heap.size, 0, none⟩ = some (.int .i64 0) := (hZ).cell 0
  have qf0 : w0.frozen? ⟨w.heap.size, 0, none⟩ = false := (hZ).frozen 0
  have q1 : w0.cell? ⟨w.heap.size, 1, none⟩ = some (.int .i64 0) := (hZ).cell 1
  have qf1 : w0.frozen? ⟨w.heap.size, 1, none⟩ = false := (hZ).frozen 1
  have q2 : w0.cell? ⟨w.heap.size, 2, none⟩ = some (.int .i64 0) := (hZ).cell 2
  have qf2 : w0.frozen? ⟨w.heap.size, 2, none⟩ = false := (hZ).frozen 2
  have q3 : w0.cell? ⟨w.heap.size, 3, none⟩ = some (.int .i64 0) := (hZ).cell 3
  have qf3 : w0.frozen? ⟨w.heap.size, 3, none⟩ = false := (hZ).frozen 3
  have q4 : w0.cell? ⟨w.heap.size, 4, none⟩ = some (.slice none 0 0) := (hZ).cell 4
  have qf4 : w0.frozen? ⟨w.heap.size, 4, none⟩ = false := (hZ).frozen 4
  obtain ⟨w9, hw9⟩ : ∃ w9, w9 = (((((w0).setCell ⟨w.heap.size, 0, none⟩ (.int .i64 0)).setCell ⟨w.heap.size, 1, none⟩ (.int .i64 0)).setCell ⟨w.heap.size, 2, none⟩ (.int .i64 0)).setCell ⟨w.heap.size, 3, none⟩ (.int .i64 0)).setCell ⟨w.heap.size, 4, none⟩ (.slice none 0 0) := ⟨_, rfl⟩
  have hz9 : Blk w9 w.heap.size 48 #[.int .i64 0, .int .i64 0, .int .i64 0, .int .i64 0, .slice none 0 0] := by rw [hw9]; exact ((((Blk.set_ hZ 0 _).set_ 1 _).set_ 2 _).set_ 3 _).set_ 4 _
  have hb9 : Below w.heap.size w w9 := by
    rw [hw9]
    exact (((((hb0).setCell (p := ⟨w.heap.size, 0, none⟩) (Nat.le_refl _) _).setCell (p := ⟨w.heap.size, 1, none⟩) (Nat.le_refl _) _).setCell (p := ⟨w.heap.size, 2, none⟩) (Nat.le_refl _) _).setCell (p := ⟨w.heap.size, 3, none⟩) (Nat.le_refl _) _).setCell (p := ⟨w.heap.size, 4, none⟩) (Nat.le_refl _) _
  have y0 : w9.cell? ⟨w.heap.size, 0, none⟩ = some (.int .i64 0) := hz9.cell 0
  have y1 : w9.cell? ⟨w.heap.size, 1, none⟩ = some (.int .i64 0) := hz9.cell 1
  have y2 : w9.cell? ⟨w.heap.size, 2, none⟩ = some (.int .i64 0) := hz9.cell 2
  have y3 : w9.cell? ⟨w.heap.size, 3, none⟩ = some (.int .i64 0) := hz9.cell 3
  have y4 : w9.cell? ⟨w.heap.size, 4, none⟩ = some (.slice none 0 0) := hz9.cell 4
  have HE : Hid (TakeNo w F c D p m 34 (.returned (.tuple #[.agg #[.int .i64 0, .int .i64 0, .int .i64 0, .int .i64 0, .slice none 0 0], .int .i64 34])) w9) := Lib.hid ⟨rfl, HP.out.below hb9, hb9⟩
  have HW9 := Lib.hid hw9
  clear hw9 hz9 hb9
  clear hw0 hb0 hZ h hP hF1 _hc _hf
  by_cases h0 : a < 0
  · go_enter Try.func38, Try.ntmps38
    go_upto_region 1 with fail
    rw [← HW0.out]
    go_wp2_with fail
    rw [← HW9.out]
    go_wp2
    exact bodyPost_ret (v := .tuple #[.agg #[.int .i64 0, .int .i64 0, .int .i64 0, .int .i64 0, .slice none 0 0], .int .i64 34]) (by simp [results, Try.results38, y0, y1, y2, y3, y4, go_sem]) rfl HE.out
  · have h1 : a ≥ (X.length : Int) := by omega
    go_enter Try.func38, Try.ntmps38
    go_upto_region 1 with fail
    rw [← HW0.out]
    go_wp2_with fail
    rw [← HW9.out]
    go_wp2
    exact bodyPost_ret (v := .tuple #[.agg #[.int .i64 0, .int .i64 0, .int .i64 0, .int .i64 0, .slice none 0 0], .int .i64 34]) (by simp [results, Try.results38, y0, y1, y2, y3, y4, go_sem]) rfl HE.out
set_option maxRecDepth 100000 in
set_option maxHeartbeats 3200000 in
theorem Take_shut (hc : c.Ok) (h : PNx w F c D p m) (hf : Fine p m) (a : Int) {k : Nat} {f : Flt} (hk : p.way[k]? = some f) (ha : a = (k : Int)) (hE : openB c p.shut (f.src : Int) (f.dst : Int) = false) : Calls Try.prog 38 #[.pointer (some ⟨D, 0, none⟩), .int .i64 a] w (TakeNo w F c D p m 30) := by
  have hb0 := one_box' w (.cells #[.int .i64 0, .int .i64 0, .int .i64 0, .int .i64 0, .slice none 0 0] 48)
  have hZ := Blk.new w 48 #[.int .i64 0, .int .i64 0, .int .i64 0, .int .i64 0, .slice none 0 0]
  obtain ⟨w0, hw0⟩ : ∃ w0, w0 = w.alloc (.cells #[.int .i64 0, .int .i64 0, .int .i64 0, .int .i64 0, .slice none 0 0] 48) := ⟨_, rfl⟩
  rw [← hw0] at hb0 hZ
  have HW0 := Lib.hid hw0
  have hs0 := hb0.size
  have hp0 := h.below hb0
  have HB0 := Lib.hid hb0
  have HP := Lib.hid h
  obtain ⟨P, S, L, g, cap, X, y, hP, hkX, hXl, hXc, hx, hxw⟩ := hp0.flt0 hk hf.way
  obtain ⟨m0, m1, m2, m3, m4⟩ := hP.fcell hx
  have c6 : w0.cell? ⟨D, 6, none⟩ = some (.slice (some ⟨g, 0, none⟩) X.length cap) := hP.blk.cell 6
  have hb1 := one_box' w0 (.cells #[.int .i64 (f.id : Int), .int .i64 (f.src : Int), .int .i64 (f.dst : Int), .int .i64 (f.due : Int), .slice (some ⟨y, 0, none⟩) f.bs.length f.bs.length] 48)
  have hX1 := Blk.new w0 48 #[.int .i64 (f.id : Int), .int .i64 (f.src : Int), .int .i64 (f.dst : Int), .int .i64 (f.due : Int), .slice (some ⟨y, 0, none⟩) f.bs.length f.bs.length]
  have hZ1 := hZ.over hb1
  obtain ⟨w1, hw1⟩ : ∃ w1, w1 = w0.alloc (.cells #[.int .i64 (f.id : Int), .int .i64 (f.src : Int), .int .i64 (f.dst : Int), .int .i64 (f.due : Int), .slice (some ⟨y, 0, none⟩) f.bs.length f.bs.length] 48) := ⟨_, rfl⟩
  rw [← hw1] at hb1 hX1 hZ1
  have hb01 : Below w.heap.size w w1 := hb0.trans (hb1.mono hs0)
  have HP1 := Lib.hid (h.below hb01)
  have HB1 := Lib.hid hb01
  have HX1 := Lib.hid hX1
  have HZ1 := Lib.hid hZ1
  have HW1 := Lib.hid hw1
  have HOP := Lib.hid (Open_any hc (h.below hb01) (f.src : Int) (f.dst : Int))
  have HUP := Lib.hid fun (W : World) (hW : Below w1.heap.size w1 W) => Up_any ((h.below hb01).below hW) (f.dst : Int)
  have HOU := Lib.hid fun (W : World) (hW : Below w1.heap.size w1 W) => out_any ((h.below hb01).below hW) hk (by have := hf.way; omega)
  have x1 : w1.cell? ⟨w0.heap.size, 1, none⟩ = some (.int .i64 (f.src : Int)) := hX1.cell 1
  have x2 : w1.cell? ⟨w0.heap.size, 2, none⟩ = some (.int .i64 (f.dst : Int)) := hX1.cell 2
  have hkI : (k : Int) < (X.length : Int) := by omega
  obtain rfl := ha
  have h0 : ¬ (k : Int) < 0 := by omega
  have hsz1 := hb01.size
  rw [hE] at HOP
  clear hE
  clear hw0 hw1 hb0 hb1 hb01 hX1 hZ1 hZ h hP hp0 hc hf hx hxw
  go_enter Try.func38, Try.ntmps38
  go_upto_region 1 with fail
  rw [← HW0.out]
  go_upto_region 4 with fail
  rw [← HW1.out]
  clear m0 m1 m2 m3 m4 c6
  go_upto_region 5 with (go_at_call 47; refine HOP.out.mono ?_; rintro _ w2 ⟨rfl, hb2⟩)
  have HB2 : Hid (Below w.heap.size w w2) := Lib.hid (HB1.out.trans (hb2.mono hsz1))
  have hz2 := HZ1.out.over hb2
  clear hb2 x1 x2
  have q0 : w2.cell? ⟨w.heap.size, 0, none⟩ = some (.int .i64 0) := (hz2).cell 0
  have qf0 : w2.frozen? ⟨w.heap.size, 0, none⟩ = false := (hz2).frozen 0
  have q1 : w2.cell? ⟨w.heap.size, 1, none⟩ = some (.int .i64 0) := (hz2).cell 1
  have qf1 : w2.frozen? ⟨w.heap.size, 1, none⟩ = false := (hz2).frozen 1
  have q2 : w2.cell? ⟨w.heap.size, 2, none⟩ = some (.int .i64 0) := (hz2).cell 2
  have qf2 : w2.frozen? ⟨w.heap.size, 2, none⟩ = false := (hz2).frozen 2
  have q3 : w2.cell? ⟨w.heap.size, 3, none⟩ = some (.int .i64 0) := (hz2).cell 3
  have qf3 : w2.frozen? ⟨w.heap.size, 3, none⟩ = false := (hz2).frozen 3
  have q4 : w2.cell? ⟨w.heap.size, 4, none⟩ = some (.slice none 0 0) := (hz2).cell 4
  have qf4 : w2.frozen? ⟨w.heap.size, 4, none⟩ = false := (hz2).frozen 4
  obtain ⟨w9, hw9⟩ : ∃ w9, w9 = (((((w2).setCell ⟨w.heap.size, 0, none⟩ (.int .i64 0)).setCell ⟨w.heap.size, 1, none⟩ (.int .i64 0)).setCell ⟨w.heap.size, 2, none⟩ (.int .i64 0)).setCell ⟨w.heap.size, 3, none⟩ (.int .i64 0)).setCell ⟨w.heap.size, 4, none⟩ (.slice none 0 0) := ⟨_, rfl⟩
  have hz9 : Blk w9 w.heap.size 48 #[.int .i64 0, .int .i64 0, .int .i64 0, .int .i64 0, .slice none 0 0] := by rw [hw9]; exact ((((Blk.set_ hz2 0 _).set_ 1 _).set_ 2 _).set_ 3 _).set_ 4 _
  have hb9 : Below w.heap.size w w9 := by
    rw [hw9]
    exact (((((HB2.out).setCell (p := ⟨w.heap.size, 0, none⟩) (Nat.le_refl _) _).setCell (p := ⟨w.heap.size, 1, none⟩) (Nat.le_refl _) _).setCell (p := ⟨w.heap.size, 2, none⟩) (Nat.le_refl _) _).setCell (p := ⟨w.heap.size, 3, none⟩) (Nat.le_refl _) _).setCell (p := ⟨w.heap.size, 4, none⟩) (Nat.le_refl _) _
  have y0 : w9.cell? ⟨w.heap.size, 0, none⟩ = some (.int .i64 0) := hz9.cell 0
  have y1 : w9.cell? ⟨w.heap.size, 1, none⟩ = some (.int .i64 0) := hz9.cell 1
  have y2 : w9.cell? ⟨w.heap.size, 2, none⟩ = some (.int .i64 0) := hz9.cell 2
  have y3 : w9.cell? ⟨w.heap.size, 3, none⟩ = some (.int .i64 0) := hz9.cell 3
  have y4 : w9.cell? ⟨w.heap.size, 4, none⟩ = some (.slice none 0 0) := hz9.cell 4
  have HE : Hid (TakeNo w F c D p m 30 (.returned (.tuple #[.agg #[.int .i64 0, .int .i64 0, .int .i64 0, .int .i64 0, .slice none 0 0], .int .i64 30])) w9) := Lib.hid ⟨rfl, HP.out.below hb9, hb9⟩
  have HW9 := Lib.hid hw9
  clear hw9 hz9 hb9
  clear hz2
  go_wp2_with fail
  rw [← HW9.out]
  go_wp2
  exact bodyPost_ret (v := .tuple #[.agg #[.int .i64 0, .int .i64 0, .int .i64 0, .int .i64 0, .slice none 0 0], .int .i64 30]) (by simp [results, Try.results38, y0, y1, y2, y3, y4, go_sem]) rfl HE.out
set_option maxRecDepth 100000 in
set_option maxHeartbeats 3200000 in
theorem Take_down (hc : c.Ok) (h : PNx w F c D p m) (hf : Fine p m) (a : Int) {k : Nat} {f : Flt} (hk : p.way[k]? = some f) (ha : a = (k : Int)) (hE : openB c p.shut (f.src : Int) (f.dst : Int) = true) (hU : upA c p.down (f.dst : Int) = false) : Calls Try.prog 38 #[.pointer (some ⟨D, 0, none⟩), .int .i64 a] w (TakeNo w F c D p m 32) := by
  have hb0 := one_box' w (.cells #[.int .i64 0, .int .i64 0, .int .i64 0, .int .i64 0, .slice none 0 0] 48)
  have hZ := Blk.new w 48 #[.int .i64 0, .int .i64 0, .int .i64 0, .int .i64 0, .slice none 0 0]
  obtain ⟨w0, hw0⟩ : ∃ w0, w0 = w.alloc (.cells #[.int .i64 0, .int .i64 0, .int .i64 0, .int .i64 0, .slice none 0 0] 48) := ⟨_, rfl⟩
  rw [← hw0] at hb0 hZ
  have HW0 := Lib.hid hw0
  have hs0 := hb0.size
  have hp0 := h.below hb0
  have HB0 := Lib.hid hb0
  have HP := Lib.hid h
  obtain ⟨P, S, L, g, cap, X, y, hP, hkX, hXl, hXc, hx, hxw⟩ := hp0.flt0 hk hf.way
  obtain ⟨m0, m1, m2, m3, m4⟩ := hP.fcell hx
  have c6 : w0.cell? ⟨D, 6, none⟩ = some (.slice (some ⟨g, 0, none⟩) X.length cap) := hP.blk.cell 6
  have hb1 := one_box' w0 (.cells #[.int .i64 (f.id : Int), .int .i64 (f.src : Int), .int .i64 (f.dst : Int), .int .i64 (f.due : Int), .slice (some ⟨y, 0, none⟩) f.bs.length f.bs.length] 48)
  have hX1 := Blk.new w0 48 #[.int .i64 (f.id : Int), .int .i64 (f.src : Int), .int .i64 (f.dst : Int), .int .i64 (f.due : Int), .slice (some ⟨y, 0, none⟩) f.bs.length f.bs.length]
  have hZ1 := hZ.over hb1
  obtain ⟨w1, hw1⟩ : ∃ w1, w1 = w0.alloc (.cells #[.int .i64 (f.id : Int), .int .i64 (f.src : Int), .int .i64 (f.dst : Int), .int .i64 (f.due : Int), .slice (some ⟨y, 0, none⟩) f.bs.length f.bs.length] 48) := ⟨_, rfl⟩
  rw [← hw1] at hb1 hX1 hZ1
  have hb01 : Below w.heap.size w w1 := hb0.trans (hb1.mono hs0)
  have HP1 := Lib.hid (h.below hb01)
  have HB1 := Lib.hid hb01
  have HX1 := Lib.hid hX1
  have HZ1 := Lib.hid hZ1
  have HW1 := Lib.hid hw1
  have HOP := Lib.hid (Open_any hc (h.below hb01) (f.src : Int) (f.dst : Int))
  have HUP := Lib.hid fun (W : World) (hW : Below w1.heap.size w1 W) => Up_any ((h.below hb01).below hW) (f.dst : Int)
  have HOU := Lib.hid fun (W : World) (hW : Below w1.heap.size w1 W) => out_any ((h.below hb01).below hW) hk (by have := hf.way; omega)
  have x1 : w1.cell? ⟨w0.heap.size, 1, none⟩ = some (.int .i64 (f.src : Int)) := hX1.cell 1
  have x2 : w1.cell? ⟨w0.heap.size, 2, none⟩ = some (.int .i64 (f.dst : Int)) := hX1.cell 2
  have hkI : (k : Int) < (X.length : Int) := by omega
  obtain rfl := ha
  have h0 : ¬ (k : Int) < 0 := by omega
  have hsz1 := hb01.size
  rw [hE] at HOP
  rw [hU] at HUP
  clear hE hU
  clear hw0 hw1 hb0 hb1 hb01 hX1 hZ1 hZ h hP hp0 hc hf hx hxw
  go_enter Try.func38, Try.ntmps38
  go_upto_region 1 with fail
  rw [← HW0.out]
  go_upto_region 4 with fail
  rw [← HW1.out]
  clear m0 m1 m2 m3 m4 c6
  go_upto_region 6 with (go_at_call 47; refine HOP.out.mono ?_; rintro _ w2 ⟨rfl, hb2⟩)
  have HB2 : Hid (Below w.heap.size w w2) := Lib.hid (HB1.out.trans (hb2.mono hsz1))
  have hz2 := HZ1.out.over hb2
  have HU2 := Lib.hid (HUP.out w2 hb2)
  have z2 : w2.cell? ⟨w0.heap.size, 2, none⟩ = some (.int .i64 (f.dst : Int)) := (HX1.out.over hb2).cell 2
  clear hb2 x1 x2
  have q0 : w2.cell? ⟨w.heap.size, 0, none⟩ = some (.int .i64 0) := (hz2).cell 0
  have qf0 : w2.frozen? ⟨w.heap.size, 0, none⟩ = false := (hz2).frozen 0
  have q1 : w2.cell? ⟨w.heap.size, 1, none⟩ = some (.int .i64 0) := (hz2).cell 1
  have qf1 : w2.frozen? ⟨w.heap.size, 1, none⟩ = false := (hz2).frozen 1
  have q2 : w2.cell? ⟨w.heap.size, 2, none⟩ = some (.int .i64 0) := (hz2).cell 2
  have qf2 : w2.frozen? ⟨w.heap.size, 2, none⟩ = false := (hz2).frozen 2
  have q3 : w2.cell? ⟨w.heap.size, 3, none⟩ = some (.int .i64 0) := (hz2).cell 3
  have qf3 : w2.frozen? ⟨w.heap.size, 3, none⟩ = false := (hz2).frozen 3
  have q4 : w2.cell? ⟨w.heap.size, 4, none⟩ = some (.slice none 0 0) := (hz2).cell 4
  have qf4 : w2.frozen? ⟨w.heap.size, 4, none⟩ = false := (hz2).frozen 4
  obtain ⟨w9, hw9⟩ : ∃ w9, w9 = (((((w2).setCell ⟨w.heap.size, 0, none⟩ (.int .i64 0)).setCell ⟨w.heap.size, 1, none⟩ (.int .i64 0)).setCell ⟨w.heap.size, 2, none⟩ (.int .i64 0)).setCell ⟨w.heap.size, 3, none⟩ (.int .i64 0)).setCell ⟨w.heap.size, 4, none⟩ (.slice none 0 0) := ⟨_, rfl⟩
  have hz9 : Blk w9 w.heap.size 48 #[.int .i64 0, .int .i64 0, .int .i64 0, .int .i64 0, .slice none 0 0] := by rw [hw9]; exact ((((Blk.set_ hz2 0 _).set_ 1 _).set_ 2 _).set_ 3 _).set_ 4 _
  have hb9 : Below w.heap.size w w9 := by
    rw [hw9]
    exact (((((HB2.out).setCell (p := ⟨w.heap.size, 0, none⟩) (Nat.le_refl _) _).setCell (p := ⟨w.heap.size, 1, none⟩) (Nat.le_refl _) _).setCell (p := ⟨w.heap.size, 2, none⟩) (Nat.le_refl _) _).setCell (p := ⟨w.heap.size, 3, none⟩) (Nat.le_refl _) _).setCell (p := ⟨w.heap.size, 4, none⟩) (Nat.le_refl _) _
  have y0 : w9.cell? ⟨w.heap.size, 0, none⟩ = some (.int .i64 0) := hz9.cell 0
  have y1 : w9.cell? ⟨w.heap.size, 1, none⟩ = some (.int .i64 0) := hz9.cell 1
  have y2 : w9.cell? ⟨w.heap.size, 2, none⟩ = some (.int .i64 0) := hz9.cell 2
  have y3 : w9.cell? ⟨w.heap.size, 3, none⟩ = some (.int .i64 0) := hz9.cell 3
  have y4 : w9.cell? ⟨w.heap.size, 4, none⟩ = some (.slice none 0 0) := hz9.cell 4
  have HE : Hid (TakeNo w F c D p m 32 (.returned (.tuple #[.agg #[.int .i64 0, .int .i64 0, .int .i64 0, .int .i64 0, .slice none 0 0], .int .i64 32])) w9) := Lib.hid ⟨rfl, HP.out.below hb9, hb9⟩
  have HW9 := Lib.hid hw9
  clear hw9 hz9 hb9
  clear hz2
  go_wp2_with (go_at_call 18; refine HU2.out.mono ?_; rintro _ _ ⟨rfl, rfl⟩)
  rw [← HW9.out]
  go_wp2
  exact bodyPost_ret (v := .tuple #[.agg #[.int .i64 0, .int .i64 0, .int .i64 0, .int .i64 0, .slice none 0 0], .int .i64 32]) (by simp [results, Try.results38, y0, y1, y2, y3, y4, go_sem]) rfl HE.out
set_option maxRecDepth 100000 in
set_option maxHeartbeats 3200000 in
theorem Take_yes (hc : c.Ok) (h : PNx w F c D p m) (hf : Fine p m) (a : Int) {k : Nat} {f : Flt} (hk : p.way[k]? = some f) (ha : a = (k : Int)) (hE : openB c p.shut (f.src : Int) (f.dst : Int) = true) (hU : upA c p.down (f.dst : Int) = true) : Calls Try.prog 38 #[.pointer (some ⟨D, 0, none⟩), .int .i64 a] w (TakeYes w F c D p m k f) := by
  have hb0 := one_box' w (.cells #[.int .i64 0, .int .i64 0, .int .i64 0, .int .i64 0, .slice none 0 0] 48)
  have hZ := Blk.new w 48 #[.int .i64 0, .int .i64 0, .int .i64 0, .int .i64 0, .slice none 0 0]
  obtain ⟨w0, hw0⟩ : ∃ w0, w0 = w.alloc (.cells #[.int .i64 0, .int .i64 0, .int .i64 0, .int .i64 0, .slice none 0 0] 48) := ⟨_, rfl⟩
  rw [← hw0] at hb0 hZ
  have HW0 := Lib.hid hw0
  have hs0 := hb0.size
  have hp0 := h.below hb0
  have HB0 := Lib.hid hb0
  have HP := Lib.hid h
  obtain ⟨P, S, L, g, cap, X, y, hP, hkX, hXl, hXc, hx, hxw⟩ := hp0.flt0 hk hf.way
  obtain ⟨m0, m1, m2, m3, m4⟩ := hP.fcell hx
  have c6 : w0.cell? ⟨D, 6, none⟩ = some (.slice (some ⟨g, 0, none⟩) X.length cap) := hP.blk.cell 6
  have hb1 := one_box' w0 (.cells #[.int .i64 (f.id : Int), .int .i64 (f.src : Int), .int .i64 (f.dst : Int), .int .i64 (f.due : Int), .slice (some ⟨y, 0, none⟩) f.bs.length f.bs.length] 48)
  have hX1 := Blk.new w0 48 #[.int .i64 (f.id : Int), .int .i64 (f.src : Int), .int .i64 (f.dst : Int), .int .i64 (f.due : Int), .slice (some ⟨y, 0, none⟩) f.bs.length f.bs.length]
  have hZ1 := hZ.over hb1
  obtain ⟨w1, hw1⟩ : ∃ w1, w1 = w0.alloc (.cells #[.int .i64 (f.id : Int), .int .i64 (f.src : Int), .int .i64 (f.dst : Int), .int .i64 (f.due : Int), .slice (some ⟨y, 0, none⟩) f.bs.length f.bs.length] 48) := ⟨_, rfl⟩
  rw [← hw1] at hb1 hX1 hZ1
  have hb01 : Below w.heap.size w w1 := hb0.trans (hb1.mono hs0)
  have HP1 := Lib.hid (h.below hb01)
  have HB1 := Lib.hid hb01
  have HX1 := Lib.hid hX1
  have HZ1 := Lib.hid hZ1
  have HW1 := Lib.hid hw1
  have HOP := Lib.hid (Open_any hc (h.below hb01) (f.src : Int) (f.dst : Int))
  have HUP := Lib.hid fun (W : World) (hW : Below w1.heap.size w1 W) => Up_any ((h.below hb01).below hW) (f.dst : Int)
  have HOU := Lib.hid fun (W : World) (hW : Below w1.heap.size w1 W) => out_any ((h.below hb01).below hW) hk (by have := hf.way; omega)
  have x1 : w1.cell? ⟨w0.heap.size, 1, none⟩ = some (.int .i64 (f.src : Int)) := hX1.cell 1
  have x2 : w1.cell? ⟨w0.heap.size, 2, none⟩ = some (.int .i64 (f.dst : Int)) := hX1.cell 2
  have hkI : (k : Int) < (X.length : Int) := by omega
  obtain rfl := ha
  have h0 : ¬ (k : Int) < 0 := by omega
  have hsz1 := hb01.size
  rw [hE] at HOP
  rw [hU] at HUP
  clear hE hU
  clear hw0 hw1 hb0 hb1 hb01 hX1 hZ1 hZ h hP hp0 hc hf hx hxw
  go_enter Try.func38, Try.ntmps38
  go_upto_region 1 with fail
  rw [← HW0.out]
  go_upto_region 4 with fail
  rw [← HW1.out]
  clear m0 m1 m2 m3 m4 c6
  go_upto_region 6 with (go_at_call 47; refine HOP.out.mono ?_; rintro _ w2 ⟨rfl, hb2⟩)
  have HB2 : Hid (Below w.heap.size w w2) := Lib.hid (HB1.out.trans (hb2.mono hsz1))
  have HZ2 := Lib.hid (HZ1.out.over hb2)
  have HU2 := Lib.hid (HUP.out w2 hb2)
  have HO2 := Lib.hid (HOU.out w2 hb2)
  have z2 : w2.cell? ⟨w0.heap.size, 2, none⟩ = some (.int .i64 (f.dst : Int)) := (HX1.out.over hb2).cell 2
  have hsz2 := hb2.size
  clear hb2 x1 x2
  go_upto_region 8 with (go_at_call 18; refine HU2.out.mono ?_; rintro _ _ ⟨rfl, rfl⟩)
  go_wp2_with fail
  refine HO2.out.mono ?_
  rintro _ w4 ⟨y4, rfl, h4, hy4, hc4, hFy4⟩
  have HNF : Hid (¬ F w.heap.size) := Lib.hid fun hf => Nat.lt_irrefl _ (HP.out.1 _ hf)
  have hz4 := HZ2.out.chg hc4 HNF.out
  have q0 : w4.cell? ⟨w.heap.size, 0, none⟩ = some (.int .i64 0) := (hz4).cell 0
  have qf0 : w4.frozen? ⟨w.heap.size, 0, none⟩ = false := (hz4).frozen 0
  have q1 : w4.cell? ⟨w.heap.size, 1, none⟩ = some (.int .i64 0) := (hz4).cell 1
  have qf1 : w4.frozen? ⟨w.heap.size, 1, none⟩ = false := (hz4).frozen 1
  have q2 : w4.cell? ⟨w.heap.size, 2, none⟩ = some (.int .i64 0) := (hz4).cell 2
  have qf2 : w4.frozen? ⟨w.heap.size, 2, none⟩ = false := (hz4).frozen 2
  have q3 : w4.cell? ⟨w.heap.size, 3, none⟩ = some (.int .i64 0) := (hz4).cell 3
  have qf3 : w4.frozen? ⟨w.heap.size, 3, none⟩ = false := (hz4).frozen 3
  have q4 : w4.cell? ⟨w.heap.size, 4, none⟩ = some (.slice none 0 0) := (hz4).cell 4
  have qf4 : w4.frozen? ⟨w.heap.size, 4, none⟩ = false := (hz4).frozen 4
  obtain ⟨w9, hw9⟩ : ∃ w9, w9 = (((((w4).setCell ⟨w.heap.size, 0, none⟩ (.int .i64 (f.id : Int))).setCell ⟨w.heap.size, 1, none⟩ (.int .i64 (f.src : Int))).setCell ⟨w.heap.size, 2, none⟩ (.int .i64 (f.dst : Int))).setCell ⟨w.heap.size, 3, none⟩ (.int .i64 (f.due : Int))).setCell ⟨w.heap.size, 4, none⟩ (.slice (some ⟨y4, 0, none⟩) f.bs.length f.bs.length) := ⟨_, rfl⟩
  have hz9 : Blk w9 w.heap.size 48 #[.int .i64 (f.id : Int), .int .i64 (f.src : Int), .int .i64 (f.dst : Int), .int .i64 (f.due : Int), .slice (some ⟨y4, 0, none⟩) f.bs.length f.bs.length] := by rw [hw9]; exact ((((hz4.set_ 0 _).set_ 1 _).set_ 2 _).set_ 3 _).set_ 4 _
  have hch9 : Chg (fun j => j = w.heap.size) w4 w9 := by
    rw [hw9]
    exact ((((((Chg.refl (fun j => j = w.heap.size) w4)).setCell (p := ⟨w.heap.size, 0, none⟩) (.inl rfl) _).setCell (p := ⟨w.heap.size, 1, none⟩) (.inl rfl) _).setCell (p := ⟨w.heap.size, 2, none⟩) (.inl rfl) _).setCell (p := ⟨w.heap.size, 3, none⟩) (.inl rfl) _).setCell (p := ⟨w.heap.size, 4, none⟩) (.inl rfl) _
  have y0 : w9.cell? ⟨w.heap.size, 0, none⟩ = some (.int .i64 (f.id : Int)) := hz9.cell 0
  have y1 : w9.cell? ⟨w.heap.size, 1, none⟩ = some (.int .i64 (f.src : Int)) := hz9.cell 1
  have y2 : w9.cell? ⟨w.heap.size, 2, none⟩ = some (.int .i64 (f.dst : Int)) := hz9.cell 2
  have y3 : w9.cell? ⟨w.heap.size, 3, none⟩ = some (.int .i64 (f.due : Int)) := hz9.cell 3
  have y4' : w9.cell? ⟨w.heap.size, 4, none⟩ = some (.slice (some ⟨y4, 0, none⟩) f.bs.length f.bs.length) := hz9.cell 4
  have HE : Hid (TakeYes w F c D p m k f (.returned (.tuple #[.agg #[.int .i64 (f.id : Int), .int .i64 (f.src : Int), .int .i64 (f.dst : Int), .int .i64 (f.due : Int), .slice (some ⟨y4, 0, none⟩) f.bs.length f.bs.length], .int .i64 0])) w9) := by
    have hnF : ∀ j, F j → ¬ j = w.heap.size := fun j hj e => HNF.out (by rw [← e]; exact hj)
    have hny : y4 ≠ w.heap.size := hy4.ne_ hz4 (by decide)
    exact Lib.hid ⟨y4, rfl, h4.chg hch9 hnF, hy4.chg hch9 hny, ((Chg.of_below HB2.out F).trans hc4).thenS hch9 fun j hj e => by omega, hFy4⟩
  have HW9 := Lib.hid hw9
  clear hw9 hz9 hch9 hz4 h4 hy4 hc4 hFy4
  go_wp2_with fail
  rw [← HW9.out]
  go_wp2
  exact bodyPost_ret (v := .tuple #[.agg #[.int .i64 (f.id : Int), .int .i64 (f.src : Int), .int .i64 (f.dst : Int), .int .i64 (f.due : Int), .slice (some ⟨y4, 0, none⟩) f.bs.length f.bs.length], .int .i64 0]) (by simp [results, Try.results38, y0, y1, y2, y3, y4', go_sem]) rfl HE.out
end Go.Proofs.Ytgfhmfhhobhojaa
