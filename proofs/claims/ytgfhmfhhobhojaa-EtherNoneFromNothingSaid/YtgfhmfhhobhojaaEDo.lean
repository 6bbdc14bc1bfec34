/-
  The program's network: Do.
-/
import Derived.Test.YtgfhmfhhobhojaaETouchF
namespace Go.Proofs.Ytgfhmfhhobhojaa
open Go.ChangeShapes Go.WideShapes Go.ChangeAt Go.RowKit
variable {w : World} {F : Nat → Prop} {c : ECfg} {D : Nat} {p : PV} {m : Nat}
structure Evt where
  kd : Int
  a : Int
  b : Int
  n : Int
  bs : List UInt8
  sides : List Int
def splitB (c : ECfg) (sides : List Int) : Bool := decide (sides.length = c.n) && sides.all fun s => decide (0 ≤ s ∧ s < 16)
theorem splitB_iff (c : ECfg) (sides : List Int) : splitB c sides = true ↔ splitOk c sides := by
  simp [splitB, splitOk]
def touchD (c : ECfg) (p : PV) (k : Nat) (f : Flt) (kd n : Int) : Int × PV :=
  if kd = 12 then (0, { p with way := p.way.eraseIdx k })
  else if kd = 13 then (if c.room ≤ p.way.length then (31, p) else (0, addP p f.src f.dst f.due f.bs))
  else if kd = 15 then (if 1 ≤ n ∧ n ≤ 16 then (0, { p with way := p.way.set k { f with due := f.due + n.toNat } }) else (1, p))
  else (if 0 ≤ n ∧ n.toNat / 8 < f.bs.length then (0, { p with way := p.way.set k (flipF f n.toNat) }) else (1, p))
def turnD (_c : ECfg) (p : PV) (i j : Nat) (kd n : Int) : Int × PV :=
  if kd = 8 then (0, { p with shut := updS p.shut i j true })
  else if kd = 9 then (0, { p with shut := updS p.shut i j false })
  else (if 1 ≤ n ∧ n ≤ 16 then (0, { p with slow := upd2 p.slow i j (slowV n.toNat) }) else (1, p))
def doD (c : ECfg) (p : PV) (e : Evt) : Int × PV :=
  if e.kd = 8 ∨ e.kd = 9 ∨ e.kd = 10 then (if joinB c e.a e.b = true then turnD c p e.a.toNat e.b.toNat e.kd e.n else (1, p))
  else if e.kd = 11 then (if splitB c e.sides = true then (0, splitP c p e.sides) else (1, p))
  else if e.kd = 12 ∨ e.kd = 13 ∨ e.kd = 15 ∨ e.kd = 16 then (if 0 ≤ e.a then (match p.way[e.a.toNat]? with | some f => touchD c p e.a.toNat f e.kd e.n | none => (34, p)) else (34, p))
  else if e.kd = 17 then (postE c p e.a e.b e.bs.length false, postP c p e.a e.b e.bs false)
  else (1, p)
theorem StepP.mono {v : Value} {p' : PV} {e : Ending} {w' : World} {m' : Nat} (h : StepP w F c D m v p' e w') (hm : m ≤ m') : StepP w F c D m' v p' e w' := by
  obtain ⟨h1, F', h2, h3, h4⟩ := h
  exact ⟨h1, F', h2.mono hm, h3, h4⟩
/-- A call behind what made new memory only. -/
theorem StepP.behind {w0 w1 w2 : World} {v v' : Value} {p' : PV} {m' : Nat} {e : Ending} (hb : Below w0.heap.size w0 w1) (h : StepP w1 F c D m' v p' e w2) : StepP w0 F c D m' v' p' (.returned v') w2 := by
  obtain ⟨_, F', h2, h3, h4⟩ := h
  exact ⟨rfl, F', h2, fun k hk => (h3 k hk).imp id fun h => Nat.le_trans hb.size h, (Chg.of_below hb F).trans h4⟩
/-- What the calls of a network ask: that it is not too great. -/
structure Fine (p : PV) (m : Nat) : Prop where
  m : m < 17592186044416
  way : p.way.length ≤ 1099511627776
  last : p.last ≤ 4611686018427387904
  clk : p.clock ≤ 4611686018427387904
  slow : ∀ i j, i < 16 → j < 16 → p.slow i j ≤ 16
  fl : ∀ f ∈ p.way, f.due ≤ 4611686018427387904 ∧ f.bs.length ≤ 40000
set_option maxRecDepth 100000 in
set_option maxHeartbeats 3200000 in
theorem Do_turn_8 (hc : c.Ok) (h : PNx w F c D p m) (hf : Fine p m) (a b n : Int) (BA SA : Option Addr) (bc sn sc : Nat) (bs : List UInt8) (_sides : List Int) {i j : Nat} (hi : i < c.n) (hj : j < c.n) (hJ : joinB c a b = true) (ha : a = (i : Int)) (hb : b = (j : Int)) : Calls Try.prog 19 #[.pointer (some ⟨D, 0, none⟩), .agg #[.int .i64 8, .int .i64 a, .int .i64 b, .int .i64 n, .slice BA bs.length bc, .int .i64 0, .int .i64 0, .int .i64 0, .int .i64 0, .string ByteArray.empty, .string ByteArray.empty, .string ByteArray.empty, .slice SA sn sc]] w (StepP w F c D (m + 1) (.int .i64 0) ({ p with shut := updS p.shut i j true })) := by
  have hb0 := one_box' w (.cells #[.int .i64 8, .int .i64 a, .int .i64 b, .int .i64 n, .slice BA bs.length bc, .int .i64 0, .int .i64 0, .int .i64 0, .int .i64 0, .string ByteArray.empty, .string ByteArray.empty, .string ByteArray.empty, .slice SA sn sc] 41)
  have hE := Blk.new w 41 #[.int .i64 8, .int .i64 a, .int .i64 b, .int .i64 n, .slice BA bs.length bc, .int .i64 0, .int .i64 0, .int .i64 0, .int .i64 0, .string ByteArray.empty, .string ByteArray.empty, .string ByteArray.empty, .slice SA sn sc]
  obtain ⟨w0, hw0⟩ : ∃ w0, w0 = w.alloc (.cells #[.int .i64 8, .int .i64 a, .int .i64 b, .int .i64 n, .slice BA bs.length bc, .int .i64 0, .int .i64 0, .int .i64 0, .int .i64 0, .string ByteArray.empty, .string ByteArray.empty, .string ByteArray.empty, .slice SA sn sc] 41) := ⟨_, rfl⟩
  rw [← hw0] at hb0 hE
  have HW0 := Lib.hid hw0
  have hs0 := hb0.size
  have x1 : w0.cell? ⟨w.heap.size, 1, none⟩ = some (.int .i64 a) := hE.cell 1
  have x2 : w0.cell? ⟨w.heap.size, 2, none⟩ = some (.int .i64 b) := hE.cell 2
  have hb1 := one_box' w0 (.cells #[.int .i64 a, .int .i64 b] 89)
  have hX := Blk.new w0 89 #[.int .i64 a, .int .i64 b]
  have hE1 := hE.over hb1
  obtain ⟨w1, hw1⟩ : ∃ w1, w1 = w0.alloc (.cells #[.int .i64 a, .int .i64 b] 89) := ⟨_, rfl⟩
  rw [← hw1] at hb1 hX hE1
  have HW1 := Lib.hid hw1
  have hb01 : Below w.heap.size w w1 := hb0.trans (hb1.mono hs0)
  have hp1 := h.below hb01
  have HB := Lib.hid hb01
  have HP := Lib.hid h
  have HC := Lib.hid hc
  have HFI := Lib.hid hf
  have k0 : w1.cell? ⟨w.heap.size, 0, none⟩ = some (.int .i64 8) := hE1.cell 0
  have HEV : Hid (∀ W, Below w1.heap.size w1 W → Blk W w.heap.size 41 #[.int .i64 8, .int .i64 a, .int .i64 b, .int .i64 n, .slice BA bs.length bc, .int .i64 0, .int .i64 0, .int .i64 0, .int .i64 0, .string ByteArray.empty, .string ByteArray.empty, .string ByteArray.empty, .slice SA sn sc] ∧ Blk W w0.heap.size 89 #[.int .i64 a, .int .i64 b]) := Lib.hid fun W hW => ⟨hE1.over hW, hX.over hW⟩
  have HJ := Lib.hid fun (W : World) (hW : Below w1.heap.size w1 W) => joins_is (hp1.below hW) hJ
  have HT := Lib.hid fun (W : World) (hW : Below w1.heap.size w1 W) => turn_8 hc (hp1.below hW) hf.m hi hj a b n BA SA bs.length bc sn sc
  rw [← ha, ← hb] at HT
  have HAA := Lib.hid ha
  have HBB := Lib.hid hb
  clear ha hb hJ
  have y0 : w1.cell? ⟨w0.heap.size, 0, none⟩ = some (.int .i64 a) := hX.cell 0
  have y1 : w1.cell? ⟨w0.heap.size, 1, none⟩ = some (.int .i64 b) := hX.cell 1
  clear hw0 hw1 hb0 hb1 hE hE1 hX hb01 hp1 h hc hf
  go_enter Try.func19, Try.ntmps19
  go_upto_region 1 with fail
  rw [← HW0.out]
  go_upto_region 2 with fail
  rw [← HW1.out]
  clear x1 x2
  go_upto_region 8 with (go_at_call 41; refine (HJ.out w1 (Below.refl _ _)).mono ?_; rintro _ w2 ⟨rfl, hb2⟩)
  obtain ⟨hEe, hXx⟩ := HEV.out w2 hb2
  have z0 : w2.cell? ⟨w0.heap.size, 0, none⟩ = some (.int .i64 a) := hXx.cell 0
  have z1 : w2.cell? ⟨w0.heap.size, 1, none⟩ = some (.int .i64 b) := hXx.cell 1
  have v0 : w2.cell? ⟨w.heap.size, 0, none⟩ = some (.int .i64 8) := (hEe).cell 0
  have v1 : w2.cell? ⟨w.heap.size, 1, none⟩ = some (.int .i64 a) := (hEe).cell 1
  have v2 : w2.cell? ⟨w.heap.size, 2, none⟩ = some (.int .i64 b) := (hEe).cell 2
  have v3 : w2.cell? ⟨w.heap.size, 3, none⟩ = some (.int .i64 n) := (hEe).cell 3
  have v4 : w2.cell? ⟨w.heap.size, 4, none⟩ = some (.slice BA bs.length bc) := (hEe).cell 4
  have v5 : w2.cell? ⟨w.heap.size, 5, none⟩ = some (.int .i64 0) := (hEe).cell 5
  have v6 : w2.cell? ⟨w.heap.size, 6, none⟩ = some (.int .i64 0) := (hEe).cell 6
  have v7 : w2.cell? ⟨w.heap.size, 7, none⟩ = some (.int .i64 0) := (hEe).cell 7
  have v8 : w2.cell? ⟨w.heap.size, 8, none⟩ = some (.int .i64 0) := (hEe).cell 8
  have v9 : w2.cell? ⟨w.heap.size, 9, none⟩ = some (.string ByteArray.empty) := (hEe).cell 9
  have v10 : w2.cell? ⟨w.heap.size, 10, none⟩ = some (.string ByteArray.empty) := (hEe).cell 10
  have v11 : w2.cell? ⟨w.heap.size, 11, none⟩ = some (.string ByteArray.empty) := (hEe).cell 11
  have v12 : w2.cell? ⟨w.heap.size, 12, none⟩ = some (.slice SA sn sc) := (hEe).cell 12

  have HT2 := Lib.hid (HT.out w2 hb2)
  have HB2 : Hid (Below w.heap.size w w2) := Lib.hid (HB.out.trans (hb2.mono HB.out.size))
  clear hEe hXx y0 y1 hb2
  go_wp2_with fail
  refine HT2.out.mono ?_
  intro e3 w3 h3
  obtain rfl := h3.1
  have HS := Lib.hid (StepP.behind (v' := .int .i64 0) HB2.out h3)
  clear h3
  go_wp2
  go_ret
  exact HS.out
set_option maxRecDepth 100000 in
set_option maxHeartbeats 3200000 in
theorem Do_turn_9 (hc : c.Ok) (h : PNx w F c D p m) (hf : Fine p m) (a b n : Int) (BA SA : Option Addr) (bc sn sc : Nat) (bs : List UInt8) (_sides : List Int) {i j : Nat} (hi : i < c.n) (hj : j < c.n) (hJ : joinB c a b = true) (ha : a = (i : Int)) (hb : b = (j : Int)) : Calls Try.prog 19 #[.pointer (some ⟨D, 0, none⟩), .agg #[.int .i64 9, .int .i64 a, .int .i64 b, .int .i64 n, .slice BA bs.length bc, .int .i64 0, .int .i64 0, .int .i64 0, .int .i64 0, .string ByteArray.empty, .string ByteArray.empty, .string ByteArray.empty, .slice SA sn sc]] w (StepP w F c D (m + 1) (.int .i64 0) ({ p with shut := updS p.shut i j false })) := by
  have hb0 := one_box' w (.cells #[.int .i64 9, .int .i64 a, .int .i64 b, .int .i64 n, .slice BA bs.length bc, .int .i64 0, .int .i64 0, .int .i64 0, .int .i64 0, .string ByteArray.empty, .string ByteArray.empty, .string ByteArray.empty, .slice SA sn sc] 41)
  have hE := Blk.new w 41 #[.int .i64 9, .int .i64 a, .int .i64 b, .int .i64 n, .slice BA bs.length bc, .int .i64 0, .int .i64 0, .int .i64 0, .int .i64 0, .string ByteArray.empty, .string ByteArray.empty, .string ByteArray.empty, .slice SA sn sc]
  obtain ⟨w0, hw0⟩ : ∃ w0, w0 = w.alloc (.cells #[.int .i64 9, .int .i64 a, .int .i64 b, .int .i64 n, .slice BA bs.length bc, .int .i64 0, .int .i64 0, .int .i64 0, .int .i64 0, .string ByteArray.empty, .string ByteArray.empty, .string ByteArray.empty, .slice SA sn sc] 41) := ⟨_, rfl⟩
  rw [← hw0] at hb0 hE
  have HW0 := Lib.hid hw0
  have hs0 := hb0.size
  have x1 : w0.cell? ⟨w.heap.size, 1, none⟩ = some (.int .i64 a) := hE.cell 1
  have x2 : w0.cell? ⟨w.heap.size, 2, none⟩ = some (.int .i64 b) := hE.cell 2
  have hb1 := one_box' w0 (.cells #[.int .i64 a, .int .i64 b] 89)
  have hX := Blk.new w0 89 #[.int .i64 a, .int .i64 b]
  have hE1 := hE.over hb1
  obtain ⟨w1, hw1⟩ : ∃ w1, w1 = w0.alloc (.cells #[.int .i64 a, .int .i64 b] 89) := ⟨_, rfl⟩
  rw [← hw1] at hb1 hX hE1
  have HW1 := Lib.hid hw1
  have hb01 : Below w.heap.size w w1 := hb0.trans (hb1.mono hs0)
  have hp1 := h.below hb01
  have HB := Lib.hid hb01
  have HP := Lib.hid h
  have HC := Lib.hid hc
  have HFI := Lib.hid hf
  have k0 : w1.cell? ⟨w.heap.size, 0, none⟩ = some (.int .i64 9) := hE1.cell 0
  have HEV : Hid (∀ W, Below w1.heap.size w1 W → Blk W w.heap.size 41 #[.int .i64 9, .int .i64 a, .int .i64 b, .int .i64 n, .slice BA bs.length bc, .int .i64 0, .int .i64 0, .int .i64 0, .int .i64 0, .string ByteArray.empty, .string ByteArray.empty, .string ByteArray.empty, .slice SA sn sc] ∧ Blk W w0.heap.size 89 #[.int .i64 a, .int .i64 b]) := Lib.hid fun W hW => ⟨hE1.over hW, hX.over hW⟩
  have HJ := Lib.hid fun (W : World) (hW : Below w1.heap.size w1 W) => joins_is (hp1.below hW) hJ
  have HT := Lib.hid fun (W : World) (hW : Below w1.heap.size w1 W) => turn_9 hc (hp1.below hW) hf.m hi hj a b n BA SA bs.length bc sn sc
  rw [← ha, ← hb] at HT
  have HAA := Lib.hid ha
  have HBB := Lib.hid hb
  clear ha hb hJ
  have y0 : w1.cell? ⟨w0.heap.size, 0, none⟩ = some (.int .i64 a) := hX.cell 0
  have y1 : w1.cell? ⟨w0.heap.size, 1, none⟩ = some (.int .i64 b) := hX.cell 1
  clear hw0 hw1 hb0 hb1 hE hE1 hX hb01 hp1 h hc hf
  go_enter Try.func19, Try.ntmps19
  go_upto_region 1 with fail
  rw [← HW0.out]
  go_upto_region 2 with fail
  rw [← HW1.out]
  clear x1 x2
  go_upto_region 8 with (go_at_call 41; refine (HJ.out w1 (Below.refl _ _)).mono ?_; rintro _ w2 ⟨rfl, hb2⟩)
  obtain ⟨hEe, hXx⟩ := HEV.out w2 hb2
  have z0 : w2.cell? ⟨w0.heap.size, 0, none⟩ = some (.int .i64 a) := hXx.cell 0
  have z1 : w2.cell? ⟨w0.heap.size, 1, none⟩ = some (.int .i64 b) := hXx.cell 1
  have v0 : w2.cell? ⟨w.heap.size, 0, none⟩ = some (.int .i64 9) := (hEe).cell 0
  have v1 : w2.cell? ⟨w.heap.size, 1, none⟩ = some (.int .i64 a) := (hEe).cell 1
  have v2 : w2.cell? ⟨w.heap.size, 2, none⟩ = some (.int .i64 b) := (hEe).cell 2
  have v3 : w2.cell? ⟨w.heap.size, 3, none⟩ = some (.int .i64 n) := (hEe).cell 3
  have v4 : w2.cell? ⟨w.heap.size, 4, none⟩ = some (.slice BA bs.length bc) := (hEe).cell 4
  have v5 : w2.cell? ⟨w.heap.size, 5, none⟩ = some (.int .i64 0) := (hEe).cell 5
  have v6 : w2.cell? ⟨w.heap.size, 6, none⟩ = some (.int .i64 0) := (hEe).cell 6
  have v7 : w2.cell? ⟨w.heap.size, 7, none⟩ = some (.int .i64 0) := (hEe).cell 7
  have v8 : w2.cell? ⟨w.heap.size, 8, none⟩ = some (.int .i64 0) := (hEe).cell 8
  have v9 : w2.cell? ⟨w.heap.size, 9, none⟩ = some (.string ByteArray.empty) := (hEe).cell 9
  have v10 : w2.cell? ⟨w.heap.size, 10, none⟩ = some (.string ByteArray.empty) := (hEe).cell 10
  have v11 : w2.cell? ⟨w.heap.size, 11, none⟩ = some (.string ByteArray.empty) := (hEe).cell 11
  have v12 : w2.cell? ⟨w.heap.size, 12, none⟩ = some (.slice SA sn sc) := (hEe).cell 12

  have HT2 := Lib.hid (HT.out w2 hb2)
  have HB2 : Hid (Below w.heap.size w w2) := Lib.hid (HB.out.trans (hb2.mono HB.out.size))
  clear hEe hXx y0 y1 hb2
  go_wp2_with fail
  refine HT2.out.mono ?_
  intro e3 w3 h3
  obtain rfl := h3.1
  have HS := Lib.hid (StepP.behind (v' := .int .i64 0) HB2.out h3)
  clear h3
  go_wp2
  go_ret
  exact HS.out
set_option maxRecDepth 100000 in
set_option maxHeartbeats 3200000 in
theorem Do_turn_10no (hc : c.Ok) (h : PNx w F c D p m) (hf : Fine p m) (a b n : Int) (BA SA : Option Addr) (bc sn sc : Nat) (bs : List UInt8) (_sides : List Int) {i j : Nat} (hi : i < c.n) (hj : j < c.n) (hJ : joinB c a b = true) (ha : a = (i : Int)) (hb : b = (j : Int)) (hno : n < 1 ∨ 16 < n) : Calls Try.prog 19 #[.pointer (some ⟨D, 0, none⟩), .agg #[.int .i64 10, .int .i64 a, .int .i64 b, .int .i64 n, .slice BA bs.length bc, .int .i64 0, .int .i64 0, .int .i64 0, .int .i64 0, .string ByteArray.empty, .string ByteArray.empty, .string ByteArray.empty, .slice SA sn sc]] w (StepP w F c D (m + 1) (.int .i64 1) (p)) := by
  have hb0 := one_box' w (.cells #[.int .i64 10, .int .i64 a, .int .i64 b, .int .i64 n, .slice BA bs.length bc, .int .i64 0, .int .i64 0, .int .i64 0, .int .i64 0, .string ByteArray.empty, .string ByteArray.empty, .string ByteArray.empty, .slice SA sn sc] 41)
  have hE := Blk.new w 41 #[.int .i64 10, .int .i64 a, .int .i64 b, .int .i64 n, .slice BA bs.length bc, .int .i64 0, .int .i64 0, .int .i64 0, .int .i64 0, .string ByteArray.empty, .string ByteArray.empty, .string ByteArray.empty, .slice SA sn sc]
  obtain ⟨w0, hw0⟩ : ∃ w0, w0 = w.alloc (.cells #[.int .i64 10, .int .i64 a, .int .i64 b, .int .i64 n, .slice BA bs.length bc, .int .i64 0, .int .i64 0, .int .i64 0, .int .i64 0, .string ByteArray.empty, .string ByteArray.empty, .string ByteArray.empty, .slice SA sn sc] 41) := ⟨_, rfl⟩
  rw [← hw0] at hb0 hE
  have HW0 := Lib.hid hw0
  have hs0 := hb0.size
  have x1 : w0.cell? ⟨w.heap.size, 1, none⟩ = some (.int .i64 a) := hE.cell 1
  have x2 : w0.cell? ⟨w.heap.size, 2, none⟩ = some (.int .i64 b) := hE.cell 2
  have hb1 := one_box' w0 (.cells #[.int .i64 a, .int .i64 b] 89)
  have hX := Blk.new w0 89 #[.int .i64 a, .int .i64 b]
  have hE1 := hE.over hb1
  obtain ⟨w1, hw1⟩ : ∃ w1, w1 = w0.alloc (.cells #[.int .i64 a, .int .i64 b] 89) := ⟨_, rfl⟩
  rw [← hw1] at hb1 hX hE1
  have HW1 := Lib.hid hw1
  have hb01 : Below w.heap.size w w1 := hb0.trans (hb1.mono hs0)
  have hp1 := h.below hb01
  have HB := Lib.hid hb01
  have HP := Lib.hid h
  have HC := Lib.hid hc
  have HFI := Lib.hid hf
  have k0 : w1.cell? ⟨w.heap.size, 0, none⟩ = some (.int .i64 10) := hE1.cell 0
  have HEV : Hid (∀ W, Below w1.heap.size w1 W → Blk W w.heap.size 41 #[.int .i64 10, .int .i64 a, .int .i64 b, .int .i64 n, .slice BA bs.length bc, .int .i64 0, .int .i64 0, .int .i64 0, .int .i64 0, .string ByteArray.empty, .string ByteArray.empty, .string ByteArray.empty, .slice SA sn sc] ∧ Blk W w0.heap.size 89 #[.int .i64 a, .int .i64 b]) := Lib.hid fun W hW => ⟨hE1.over hW, hX.over hW⟩
  have HJ := Lib.hid fun (W : World) (hW : Below w1.heap.size w1 W) => joins_is (hp1.below hW) hJ
  have HT := Lib.hid fun (W : World) (hW : Below w1.heap.size w1 W) => turn_10no hc (hp1.below hW) hf.m hi hj a b n BA SA bs.length bc sn sc hno
  rw [← ha, ← hb] at HT
  have HAA := Lib.hid ha
  have HBB := Lib.hid hb
  clear ha hb hJ
  have y0 : w1.cell? ⟨w0.heap.size, 0, none⟩ = some (.int .i64 a) := hX.cell 0
  have y1 : w1.cell? ⟨w0.heap.size, 1, none⟩ = some (.int .i64 b) := hX.cell 1
  clear hw0 hw1 hb0 hb1 hE hE1 hX hb01 hp1 h hc hf
  go_enter Try.func19, Try.ntmps19
  go_upto_region 1 with fail
  rw [← HW0.out]
  go_upto_region 2 with fail
  rw [← HW1.out]
  clear x1 x2
  go_upto_region 8 with (go_at_call 41; refine (HJ.out w1 (Below.refl _ _)).mono ?_; rintro _ w2 ⟨rfl, hb2⟩)
  obtain ⟨hEe, hXx⟩ := HEV.out w2 hb2
  have z0 : w2.cell? ⟨w0.heap.size, 0, none⟩ = some (.int .i64 a) := hXx.cell 0
  have z1 : w2.cell? ⟨w0.heap.size, 1, none⟩ = some (.int .i64 b) := hXx.cell 1
  have v0 : w2.cell? ⟨w.heap.size, 0, none⟩ = some (.int .i64 10) := (hEe).cell 0
  have v1 : w2.cell? ⟨w.heap.size, 1, none⟩ = some (.int .i64 a) := (hEe).cell 1
  have v2 : w2.cell? ⟨w.heap.size, 2, none⟩ = some (.int .i64 b) := (hEe).cell 2
  have v3 : w2.cell? ⟨w.heap.size, 3, none⟩ = some (.int .i64 n) := (hEe).cell 3
  have v4 : w2.cell? ⟨w.heap.size, 4, none⟩ = some (.slice BA bs.length bc) := (hEe).cell 4
  have v5 : w2.cell? ⟨w.heap.size, 5, none⟩ = some (.int .i64 0) := (hEe).cell 5
  have v6 : w2.cell? ⟨w.heap.size, 6, none⟩ = some (.int .i64 0) := (hEe).cell 6
  have v7 : w2.cell? ⟨w.heap.size, 7, none⟩ = some (.int .i64 0) := (hEe).cell 7
  have v8 : w2.cell? ⟨w.heap.size, 8, none⟩ = some (.int .i64 0) := (hEe).cell 8
  have v9 : w2.cell? ⟨w.heap.size, 9, none⟩ = some (.string ByteArray.empty) := (hEe).cell 9
  have v10 : w2.cell? ⟨w.heap.size, 10, none⟩ = some (.string ByteArray.empty) := (hEe).cell 10
  have v11 : w2.cell? ⟨w.heap.size, 11, none⟩ = some (.string ByteArray.empty) := (hEe).cell 11
  have v12 : w2.cell? ⟨w.heap.size, 12, none⟩ = some (.slice SA sn sc) := (hEe).cell 12

  have HT2 := Lib.hid (HT.out w2 hb2)
  have HB2 : Hid (Below w.heap.size w w2) := Lib.hid (HB.out.trans (hb2.mono HB.out.size))
  clear hEe hXx y0 y1 hb2
  go_wp2_with fail
  refine HT2.out.mono ?_
  intro e3 w3 h3
  obtain rfl := h3.1
  have HS := Lib.hid (StepP.behind (v' := .int .i64 1) HB2.out h3)
  clear h3
  go_wp2
  go_ret
  exact HS.out
set_option maxRecDepth 100000 in
set_option maxHeartbeats 3200000 in
theorem Do_turn_10yes (hc : c.Ok) (h : PNx w F c D p m) (hf : Fine p m) (a b n : Int) (BA SA : Option Addr) (bc sn sc : Nat) (bs : List UInt8) (_sides : List Int) {i j : Nat} (hi : i < c.n) (hj : j < c.n) (hJ : joinB c a b = true) (ha : a = (i : Int)) (hb : b = (j : Int)) (d : Nat) (hd : n = (d : Int)) (hd1 : 1 ≤ d) (hd2 : d ≤ 16) : Calls Try.prog 19 #[.pointer (some ⟨D, 0, none⟩), .agg #[.int .i64 10, .int .i64 a, .int .i64 b, .int .i64 n, .slice BA bs.length bc, .int .i64 0, .int .i64 0, .int .i64 0, .int .i64 0, .string ByteArray.empty, .string ByteArray.empty, .string ByteArray.empty, .slice SA sn sc]] w (StepP w F c D (m + 1) (.int .i64 0) ({ p with slow := upd2 p.slow i j (slowV d) })) := by
  have hb0 := one_box' w (.cells #[.int .i64 10, .int .i64 a, .int .i64 b, .int .i64 n, .slice BA bs.length bc, .int .i64 0, .int .i64 0, .int .i64 0, .int .i64 0, .string ByteArray.empty, .string ByteArray.empty, .string ByteArray.empty, .slice SA sn sc] 41)
  have hE := Blk.new w 41 #[.int .i64 10, .int .i64 a, .int .i64 b, .int .i64 n, .slice BA bs.length bc, .int .i64 0, .int .i64 0, .int .i64 0, .int .i64 0, .string ByteArray.empty, .string ByteArray.empty, .string ByteArray.empty, .slice SA sn sc]
  obtain ⟨w0, hw0⟩ : ∃ w0, w0 = w.alloc (.cells #[.int .i64 10, .int .i64 a, .int .i64 b, .int .i64 n, .slice BA bs.length bc, .int .i64 0, .int .i64 0, .int .i64 0, .int .i64 0, .string ByteArray.empty, .string ByteArray.empty, .string ByteArray.empty, .slice SA sn sc] 41) := ⟨_, rfl⟩
  rw [← hw0] at hb0 hE
  have HW0 := Lib.hid hw0
  have hs0 := hb0.size
  have x1 : w0.cell? ⟨w.heap.size, 1, none⟩ = some (.int .i64 a) := hE.cell 1
  have x2 : w0.cell? ⟨w.heap.size, 2, none⟩ = some (.int .i64 b) := hE.cell 2
  have hb1 := one_box' w0 (.cells #[.int .i64 a, .int .i64 b] 89)
  have hX := Blk.new w0 89 #[.int .i64 a, .int .i64 b]
  have hE1 := hE.over hb1
  obtain ⟨w1, hw1⟩ : ∃ w1, w1 = w0.alloc (.cells #[.int .i64 a, .int .i64 b] 89) := ⟨_, rfl⟩
  rw [← hw1] at hb1 hX hE1
  have HW1 := Lib.hid hw1
  have hb01 : Below w.heap.size w w1 := hb0.trans (hb1.mono hs0)
  have hp1 := h.below hb01
  have HB := Lib.hid hb01
  have HP := Lib.hid h
  have HC := Lib.hid hc
  have HFI := Lib.hid hf
  have k0 : w1.cell? ⟨w.heap.size, 0, none⟩ = some (.int .i64 10) := hE1.cell 0
  have HEV : Hid (∀ W, Below w1.heap.size w1 W → Blk W w.heap.size 41 #[.int .i64 10, .int .i64 a, .int .i64 b, .int .i64 n, .slice BA bs.length bc, .int .i64 0, .int .i64 0, .int .i64 0, .int .i64 0, .string ByteArray.empty, .string ByteArray.empty, .string ByteArray.empty, .slice SA sn sc] ∧ Blk W w0.heap.size 89 #[.int .i64 a, .int .i64 b]) := Lib.hid fun W hW => ⟨hE1.over hW, hX.over hW⟩
  have HJ := Lib.hid fun (W : World) (hW : Below w1.heap.size w1 W) => joins_is (hp1.below hW) hJ
  have HT := Lib.hid fun (W : World) (hW : Below w1.heap.size w1 W) => turn_10yes hc (hp1.below hW) hf.m hi hj a b n BA SA bs.length bc sn sc d hd hd1 hd2
  rw [← ha, ← hb] at HT
  have HAA := Lib.hid ha
  have HBB := Lib.hid hb
  clear ha hb hJ
  have HDD := Lib.hid hd
  clear hd
  have y0 : w1.cell? ⟨w0.heap.size, 0, none⟩ = some (.int .i64 a) := hX.cell 0
  have y1 : w1.cell? ⟨w0.heap.size, 1, none⟩ = some (.int .i64 b) := hX.cell 1
  clear hw0 hw1 hb0 hb1 hE hE1 hX hb01 hp1 h hc hf
  go_enter Try.func19, Try.ntmps19
  go_upto_region 1 with fail
  rw [← HW0.out]
  go_upto_region 2 with fail
  rw [← HW1.out]
  clear x1 x2
  go_upto_region 8 with (go_at_call 41; refine (HJ.out w1 (Below.refl _ _)).mono ?_; rintro _ w2 ⟨rfl, hb2⟩)
  obtain ⟨hEe, hXx⟩ := HEV.out w2 hb2
  have z0 : w2.cell? ⟨w0.heap.size, 0, none⟩ = some (.int .i64 a) := hXx.cell 0
  have z1 : w2.cell? ⟨w0.heap.size, 1, none⟩ = some (.int .i64 b) := hXx.cell 1
  have v0 : w2.cell? ⟨w.heap.size, 0, none⟩ = some (.int .i64 10) := (hEe).cell 0
  have v1 : w2.cell? ⟨w.heap.size, 1, none⟩ = some (.int .i64 a) := (hEe).cell 1
  have v2 : w2.cell? ⟨w.heap.size, 2, none⟩ = some (.int .i64 b) := (hEe).cell 2
  have v3 : w2.cell? ⟨w.heap.size, 3, none⟩ = some (.int .i64 n) := (hEe).cell 3
  have v4 : w2.cell? ⟨w.heap.size, 4, none⟩ = some (.slice BA bs.length bc) := (hEe).cell 4
  have v5 : w2.cell? ⟨w.heap.size, 5, none⟩ = some (.int .i64 0) := (hEe).cell 5
  have v6 : w2.cell? ⟨w.heap.size, 6, none⟩ = some (.int .i64 0) := (hEe).cell 6
  have v7 : w2.cell? ⟨w.heap.size, 7, none⟩ = some (.int .i64 0) := (hEe).cell 7
  have v8 : w2.cell? ⟨w.heap.size, 8, none⟩ = some (.int .i64 0) := (hEe).cell 8
  have v9 : w2.cell? ⟨w.heap.size, 9, none⟩ = some (.string ByteArray.empty) := (hEe).cell 9
  have v10 : w2.cell? ⟨w.heap.size, 10, none⟩ = some (.string ByteArray.empty) := (hEe).cell 10
  have v11 : w2.cell? ⟨w.heap.size, 11, none⟩ = some (.string ByteArray.empty) := (hEe).cell 11
  have v12 : w2.cell? ⟨w.heap.size, 12, none⟩ = some (.slice SA sn sc) := (hEe).cell 12

  have HT2 := Lib.hid (HT.out w2 hb2)
  have HB2 : Hid (Below w.heap.size w w2) := Lib.hid (HB.out.trans (hb2.mono HB.out.size))
  clear hEe hXx y0 y1 hb2
  go_wp2_with fail
  refine HT2.out.mono ?_
  intro e3 w3 h3
  obtain rfl := h3.1
  have HS := Lib.hid (StepP.behind (v' := .int .i64 0) HB2.out h3)
  clear h3
  go_wp2
  go_ret
  exact HS.out
set_option maxRecDepth 100000 in
set_option maxHeartbeats 3200000 in
theorem Do_turn_none (hc : c.Ok) (h : PNx w F c D p m) (hf : Fine p m) (kd a b n : Int) (BA SA : Option Addr) (bc sn sc : Nat) (bs : List UInt8) (_sides : List Int) (hk : kd = 8 ∨ kd = 9 ∨ kd = 10) (hJ : joinB c a b = false) : Calls Try.prog 19 #[.pointer (some ⟨D, 0, none⟩), .agg #[.int .i64 kd, .int .i64 a, .int .i64 b, .int .i64 n, .slice BA bs.length bc, .int .i64 0, .int .i64 0, .int .i64 0, .int .i64 0, .string ByteArray.empty, .string ByteArray.empty, .string ByteArray.empty, .slice SA sn sc]] w (StepP w F c D (m + 1) (.int .i64 1) p) := by
  have hb0 := one_box' w (.cells #[.int .i64 kd, .int .i64 a, .int .i64 b, .int .i64 n, .slice BA bs.length bc, .int .i64 0, .int .i64 0, .int .i64 0, .int .i64 0, .string ByteArray.empty, .string ByteArray.empty, .string ByteArray.empty, .slice SA sn sc] 41)
  have hE := Blk.new w 41 #[.int .i64 kd, .int .i64 a, .int .i64 b, .int .i64 n, .slice BA bs.length bc, .int .i64 0, .int .i64 0, .int .i64 0, .int .i64 0, .string ByteArray.empty, .string ByteArray.empty, .string ByteArray.empty, .slice SA sn sc]
  obtain ⟨w0, hw0⟩ : ∃ w0, w0 = w.alloc (.cells #[.int .i64 kd, .int .i64 a, .int .i64 b, .int .i64 n, .slice BA bs.length bc, .int .i64 0, .int .i64 0, .int .i64 0, .int .i64 0, .string ByteArray.empty, .string ByteArray.empty, .string ByteArray.empty, .slice SA sn sc] 41) := ⟨_, rfl⟩
  rw [← hw0] at hb0 hE
  have HW0 := Lib.hid hw0
  have hs0 := hb0.size
  have x1 : w0.cell? ⟨w.heap.size, 1, none⟩ = some (.int .i64 a) := hE.cell 1
  have x2 : w0.cell? ⟨w.heap.size, 2, none⟩ = some (.int .i64 b) := hE.cell 2
  have hb1 := one_box' w0 (.cells #[.int .i64 a, .int .i64 b] 89)
  have hX := Blk.new w0 89 #[.int .i64 a, .int .i64 b]
  have hE1 := hE.over hb1
  obtain ⟨w1, hw1⟩ : ∃ w1, w1 = w0.alloc (.cells #[.int .i64 a, .int .i64 b] 89) := ⟨_, rfl⟩
  rw [← hw1] at hb1 hX hE1
  have HW1 := Lib.hid hw1
  have hb01 : Below w.heap.size w w1 := hb0.trans (hb1.mono hs0)
  have hp1 := h.below hb01
  have HB := Lib.hid hb01
  have HP := Lib.hid h
  have HC := Lib.hid hc
  have HFI := Lib.hid hf
  have k0 : w1.cell? ⟨w.heap.size, 0, none⟩ = some (.int .i64 kd) := hE1.cell 0
  have HEV : Hid (∀ W, Below w1.heap.size w1 W → Blk W w.heap.size 41 #[.int .i64 kd, .int .i64 a, .int .i64 b, .int .i64 n, .slice BA bs.length bc, .int .i64 0, .int .i64 0, .int .i64 0, .int .i64 0, .string ByteArray.empty, .string ByteArray.empty, .string ByteArray.empty, .slice SA sn sc] ∧ Blk W w0.heap.size 89 #[.int .i64 a, .int .i64 b]) := Lib.hid fun W hW => ⟨hE1.over hW, hX.over hW⟩
  have HJ := Lib.hid fun (W : World) (hW : Below w1.heap.size w1 W) => joins_is (hp1.below hW) hJ
  have y0 : w1.cell? ⟨w0.heap.size, 0, none⟩ = some (.int .i64 a) := hX.cell 0
  have y1 : w1.cell? ⟨w0.heap.size, 1, none⟩ = some (.int .i64 b) := hX.cell 1
  clear hw0 hw1 hb0 hb1 hE hE1 hX hb01 hp1 h hc hf hJ
  rcases hk with rfl | rfl | rfl
  all_goals
    go_enter Try.func19, Try.ntmps19
    go_upto_region 1 with fail
    rw [← HW0.out]
    go_upto_region 2 with fail
    rw [← HW1.out]
    clear x1 x2
    go_wp2_with (go_at_call 41; refine (HJ.out w1 (Below.refl _ _)).mono ?_; rintro _ w2 ⟨rfl, hb2⟩)
    have HS : Hid (StepP w F c D (m + 1) (.int .i64 1) p (.returned (.int .i64 1)) w2) := Lib.hid (StepP.same (HP.out.mono (Nat.le_succ m)) (HB.out.trans (hb2.mono HB.out.size)))
    go_ret
    exact HS.out
set_option maxRecDepth 100000 in
set_option maxHeartbeats 3200000 in
theorem Do_split_yes (hc : c.Ok) (h : PNx w F c D p m) (hf : Fine p m) (a b n : Int) (BA SA : Option Addr) (bc sn sc : Nat) (bs : List UInt8) (sides : List Int) (hok : splitOk c sides) (hr : RdI w w.heap.size SA sn sides) (hsn : sn ≤ 140737488351232) (hSA : 0 < sn → ∀ b o s, SA = some ⟨b, o, s⟩ → ¬ F b) : Calls Try.prog 19 #[.pointer (some ⟨D, 0, none⟩), .agg #[.int .i64 11, .int .i64 a, .int .i64 b, .int .i64 n, .slice BA bs.length bc, .int .i64 0, .int .i64 0, .int .i64 0, .int .i64 0, .string ByteArray.empty, .string ByteArray.empty, .string ByteArray.empty, .slice SA sn sc]] w (StepP w F c D (m + 1) (.int .i64 0) (splitP c p sides)) := by
  have hb0 := one_box' w (.cells #[.int .i64 11, .int .i64 a, .int .i64 b, .int .i64 n, .slice BA bs.length bc, .int .i64 0, .int .i64 0, .int .i64 0, .int .i64 0, .string ByteArray.empty, .string ByteArray.empty, .string ByteArray.empty, .slice SA sn sc] 41)
  have hE := Blk.new w 41 #[.int .i64 11, .int .i64 a, .int .i64 b, .int .i64 n, .slice BA bs.length bc, .int .i64 0, .int .i64 0, .int .i64 0, .int .i64 0, .string ByteArray.empty, .string ByteArray.empty, .string ByteArray.empty, .slice SA sn sc]
  obtain ⟨w0, hw0⟩ : ∃ w0, w0 = w.alloc (.cells #[.int .i64 11, .int .i64 a, .int .i64 b, .int .i64 n, .slice BA bs.length bc, .int .i64 0, .int .i64 0, .int .i64 0, .int .i64 0, .string ByteArray.empty, .string ByteArray.empty, .string ByteArray.empty, .slice SA sn sc] 41) := ⟨_, rfl⟩
  rw [← hw0] at hb0 hE
  have HW0 := Lib.hid hw0
  have hs0 := hb0.size
  have x1 : w0.cell? ⟨w.heap.size, 1, none⟩ = some (.int .i64 a) := hE.cell 1
  have x2 : w0.cell? ⟨w.heap.size, 2, none⟩ = some (.int .i64 b) := hE.cell 2
  have hb1 := one_box' w0 (.cells #[.int .i64 a, .int .i64 b] 89)
  have hX := Blk.new w0 89 #[.int .i64 a, .int .i64 b]
  have hE1 := hE.over hb1
  obtain ⟨w1, hw1⟩ : ∃ w1, w1 = w0.alloc (.cells #[.int .i64 a, .int .i64 b] 89) := ⟨_, rfl⟩
  rw [← hw1] at hb1 hX hE1
  have HW1 := Lib.hid hw1
  have hb01 : Below w.heap.size w w1 := hb0.trans (hb1.mono hs0)
  have hp1 := h.below hb01
  have HB := Lib.hid hb01
  have HP := Lib.hid h
  have HC := Lib.hid hc
  have HFI := Lib.hid hf
  have k0 : w1.cell? ⟨w.heap.size, 0, none⟩ = some (.int .i64 11) := hE1.cell 0
  have HEV : Hid (∀ W, Below w1.heap.size w1 W → Blk W w.heap.size 41 #[.int .i64 11, .int .i64 a, .int .i64 b, .int .i64 n, .slice BA bs.length bc, .int .i64 0, .int .i64 0, .int .i64 0, .int .i64 0, .string ByteArray.empty, .string ByteArray.empty, .string ByteArray.empty, .slice SA sn sc] ∧ Blk W w0.heap.size 89 #[.int .i64 a, .int .i64 b]) := Lib.hid fun W hW => ⟨hE1.over hW, hX.over hW⟩
  have HS := Lib.hid (split_any hc hp1 hf.m SA sn sc sides ((hr.below hb01).more hb01.size) hsn hSA)
  have v12 : w1.cell? ⟨w.heap.size, 12, none⟩ = some (.slice SA sn sc) := hE1.cell 12
  have HOK := Lib.hid hok
  clear hr hSA hok
  clear hw0 hw1 hb0 hb1 hE hE1 hX hb01 hp1 h hc hf
  go_enter Try.func19, Try.ntmps19
  go_upto_region 1 with fail
  rw [← HW0.out]
  go_upto_region 2 with fail
  rw [← HW1.out]
  clear x1 x2
  go_wp2_with fail
  refine HS.out.mono ?_
  intro e3 w3 h3
  have h4 : StepP w1 F c D (m + 1) (.int .i64 0) (splitP c p sides) e3 w3 := by
    rcases h3 with ⟨g1, g2⟩ | ⟨g1, g2⟩
    · exact g2
    · exact absurd HOK.out g1
  obtain rfl := h4.1
  have HS := Lib.hid (StepP.behind (v' := .int .i64 0) HB.out h4)
  clear h3 h4
  go_wp2
  go_ret
  exact HS.out
set_option maxRecDepth 100000 in
set_option maxHeartbeats 3200000 in
theorem Do_split_no (hc : c.Ok) (h : PNx w F c D p m) (hf : Fine p m) (a b n : Int) (BA SA : Option Addr) (bc sn sc : Nat) (bs : List UInt8) (sides : List Int) (hok : ¬ splitOk c sides) (hr : RdI w w.heap.size SA sn sides) (hsn : sn ≤ 140737488351232) (hSA : 0 < sn → ∀ b o s, SA = some ⟨b, o, s⟩ → ¬ F b) : Calls Try.prog 19 #[.pointer (some ⟨D, 0, none⟩), .agg #[.int .i64 11, .int .i64 a, .int .i64 b, .int .i64 n, .slice BA bs.length bc, .int .i64 0, .int .i64 0, .int .i64 0, .int .i64 0, .string ByteArray.empty, .string ByteArray.empty, .string ByteArray.empty, .slice SA sn sc]] w (StepP w F c D (m + 1) (.int .i64 1) p) := by
  have hb0 := one_box' w (.cells #[.int .i64 11, .int .i64 a, .int .i64 b, .int .i64 n, .slice BA bs.length bc, .int .i64 0, .int .i64 0, .int .i64 0, .int .i64 0, .string ByteArray.empty, .string ByteArray.empty, .string ByteArray.empty, .slice SA sn sc] 41)
  have hE := Blk.new w 41 #[.int .i64 11, .int .i64 a, .int .i64 b, .int .i64 n, .slice BA bs.length bc, .int .i64 0, .int .i64 0, .int .i64 0, .int .i64 0, .string ByteArray.empty, .string ByteArray.empty, .string ByteArray.empty, .slice SA sn sc]
  obtain ⟨w0, hw0⟩ : ∃ w0, w0 = w.alloc (.cells #[.int .i64 11, .int .i64 a, .int .i64 b, .int .i64 n, .slice BA bs.length bc, .int .i64 0, .int .i64 0, .int .i64 0, .int .i64 0, .string ByteArray.empty, .string ByteArray.empty, .string ByteArray.empty, .slice SA sn sc] 41) := ⟨_, rfl⟩
  rw [← hw0] at hb0 hE
  have HW0 := Lib.hid hw0
  have hs0 := hb0.size
  have x1 : w0.cell? ⟨w.heap.size, 1, none⟩ = some (.int .i64 a) := hE.cell 1
  have x2 : w0.cell? ⟨w.heap.size, 2, none⟩ = some (.int .i64 b) := hE.cell 2
  have hb1 := one_box' w0 (.cells #[.int .i64 a, .int .i64 b] 89)
  have hX := Blk.new w0 89 #[.int .i64 a, .int .i64 b]
  have hE1 := hE.over hb1
  obtain ⟨w1, hw1⟩ : ∃ w1, w1 = w0.alloc (.cells #[.int .i64 a, .int .i64 b] 89) := ⟨_, rfl⟩
  rw [← hw1] at hb1 hX hE1
  have HW1 := Lib.hid hw1
  have hb01 : Below w.heap.size w w1 := hb0.trans (hb1.mono hs0)
  have hp1 := h.below hb01
  have HB := Lib.hid hb01
  have HP := Lib.hid h
  have HC := Lib.hid hc
  have HFI := Lib.hid hf
  have k0 : w1.cell? ⟨w.heap.size, 0, none⟩ = some (.int .i64 11) := hE1.cell 0
  have HEV : Hid (∀ W, Below w1.heap.size w1 W → Blk W w.heap.size 41 #[.int .i64 11, .int .i64 a, .int .i64 b, .int .i64 n, .slice BA bs.length bc, .int .i64 0, .int .i64 0, .int .i64 0, .int .i64 0, .string ByteArray.empty, .string ByteArray.empty, .string ByteArray.empty, .slice SA sn sc] ∧ Blk W w0.heap.size 89 #[.int .i64 a, .int .i64 b]) := Lib.hid fun W hW => ⟨hE1.over hW, hX.over hW⟩
  have HS := Lib.hid (split_any hc hp1 hf.m SA sn sc sides ((hr.below hb01).more hb01.size) hsn hSA)
  have v12 : w1.cell? ⟨w.heap.size, 12, none⟩ = some (.slice SA sn sc) := hE1.cell 12
  have HOK := Lib.hid hok
  clear hr hSA hok
  clear hw0 hw1 hb0 hb1 hE hE1 hX hb01 hp1 h hc hf
  go_enter Try.func19, Try.ntmps19
  go_upto_region 1 with fail
  rw [← HW0.out]
  go_upto_region 2 with fail
  rw [← HW1.out]
  clear x1 x2
  go_wp2_with fail
  refine HS.out.mono ?_
  intro e3 w3 h3
  have h4 : StepP w1 F c D (m + 1) (.int .i64 1) p e3 w3 := by
    rcases h3 with ⟨g1, g2⟩ | ⟨g1, g2⟩
    · exact absurd g1 HOK.out
    · exact g2
  obtain rfl := h4.1
  have HS := Lib.hid (StepP.behind (v' := .int .i64 1) HB.out h4)
  clear h3 h4
  go_wp2
  go_ret
  exact HS.out
set_option maxRecDepth 100000 in
set_option maxHeartbeats 3200000 in
theorem Do_touch_none (hc : c.Ok) (h : PNx w F c D p m) (hf : Fine p m) (kd a b n : Int) (BA SA : Option Addr) (bc sn sc : Nat) (bs : List UInt8) (_sides : List Int) (hk : kd = 12 ∨ kd = 13 ∨ kd = 15 ∨ kd = 16) (hno : a < 0 ∨ (p.way.length : Int) ≤ a) : Calls Try.prog 19 #[.pointer (some ⟨D, 0, none⟩), .agg #[.int .i64 kd, .int .i64 a, .int .i64 b, .int .i64 n, .slice BA bs.length bc, .int .i64 0, .int .i64 0, .int .i64 0, .int .i64 0, .string ByteArray.empty, .string ByteArray.empty, .string ByteArray.empty, .slice SA sn sc]] w (StepP w F c D (m + 1) (.int .i64 34) p) := by
  have hb0 := one_box' w (.cells #[.int .i64 kd, .int .i64 a, .int .i64 b, .int .i64 n, .slice BA bs.length bc, .int .i64 0, .int .i64 0, .int .i64 0, .int .i64 0, .string ByteArray.empty, .string ByteArray.empty, .string ByteArray.empty, .slice SA sn sc] 41)
  have hE := Blk.new w 41 #[.int .i64 kd, .int .i64 a, .int .i64 b, .int .i64 n, .slice BA bs.length bc, .int .i64 0, .int .i64 0, .int .i64 0, .int .i64 0, .string ByteArray.empty, .string ByteArray.empty, .string ByteArray.empty, .slice SA sn sc]
  obtain ⟨w0, hw0⟩ : ∃ w0, w0 = w.alloc (.cells #[.int .i64 kd, .int .i64 a, .int .i64 b, .int .i64 n, .slice BA bs.length bc, .int .i64 0, .int .i64 0, .int .i64 0, .int .i64 0, .string ByteArray.empty, .string ByteArray.empty, .string ByteArray.empty, .slice SA sn sc] 41) := ⟨_, rfl⟩
  rw [← hw0] at hb0 hE
  have HW0 := Lib.hid hw0
  have hs0 := hb0.size
  have x1 : w0.cell? ⟨w.heap.size, 1, none⟩ = some (.int .i64 a) := hE.cell 1
  have x2 : w0.cell? ⟨w.heap.size, 2, none⟩ = some (.int .i64 b) := hE.cell 2
  have hb1 := one_box' w0 (.cells #[.int .i64 a, .int .i64 b] 89)
  have hX := Blk.new w0 89 #[.int .i64 a, .int .i64 b]
  have hE1 := hE.over hb1
  obtain ⟨w1, hw1⟩ : ∃ w1, w1 = w0.alloc (.cells #[.int .i64 a, .int .i64 b] 89) := ⟨_, rfl⟩
  rw [← hw1] at hb1 hX hE1
  have HW1 := Lib.hid hw1
  have hb01 : Below w.heap.size w w1 := hb0.trans (hb1.mono hs0)
  have hp1 := h.below hb01
  have HB := Lib.hid hb01
  have HP := Lib.hid h
  have HC := Lib.hid hc
  have HFI := Lib.hid hf
  have k0 : w1.cell? ⟨w.heap.size, 0, none⟩ = some (.int .i64 kd) := hE1.cell 0
  have HEV : Hid (∀ W, Below w1.heap.size w1 W → Blk W w.heap.size 41 #[.int .i64 kd, .int .i64 a, .int .i64 b, .int .i64 n, .slice BA bs.length bc, .int .i64 0, .int .i64 0, .int .i64 0, .int .i64 0, .string ByteArray.empty, .string ByteArray.empty, .string ByteArray.empty, .slice SA sn sc] ∧ Blk W w0.heap.size 89 #[.int .i64 a, .int .i64 b]) := Lib.hid fun W hW => ⟨hE1.over hW, hX.over hW⟩
  obtain ⟨hF1, P, S, L, v, X, hP⟩ := hp1
  obtain ⟨A6, cap6, rfl, hcp6, hcm6⟩ := own_shape hP.row
  have c6 : w1.cell? ⟨D, 6, none⟩ = some (.slice A6 X.length cap6) := hP.blk.cell 6
  have v1 : w1.cell? ⟨w.heap.size, 1, none⟩ = some (.int .i64 a) := hE1.cell 1
  rw [hP.len] at hno
  have HS : Hid (∀ d, StepP w F c D (m + 1) (.int .i64 34) p (.returned (.int .i64 34)) (w1.drewN d)) := Lib.hid fun d => StepP.same (h.mono (Nat.le_succ m)) (below_drewN hb01 d)
  clear hw0 hw1 hb0 hb1 hE hE1 hX hb01 h hc hf hP hF1
  by_cases h0 : a < 0
  · have e0 : decide (a < 0) = true := by simpa using h0
    rcases hk with rfl | rfl | rfl | rfl
    all_goals
      go_enter Try.func19, Try.ntmps19
      go_upto_region 1 with fail
      rw [← HW0.out]
      go_upto_region 2 with fail
      rw [← HW1.out]
      clear x1 x2
      go_upto_region 15 with fail
      go_quiet (fail)
      have HS2 := Lib.hid (HS.out nq)
      go_wp2
      go_ret
      exact HS2.out
  · have e0 : decide (a < 0) = false := by simpa using h0
    have h1 : (X.length : Int) ≤ a := by omega
    have e1 : decide (a ≥ (X.length : Int)) = true := by simpa using h1
    rcases hk with rfl | rfl | rfl | rfl
    all_goals
      go_enter Try.func19, Try.ntmps19
      go_upto_region 1 with fail
      rw [← HW0.out]
      go_upto_region 2 with fail
      rw [← HW1.out]
      clear x1 x2
      go_upto_region 15 with fail
      go_quiet (fail)
      have HS2 := Lib.hid (HS.out nq)
      go_wp2
      go_ret
      exact HS2.out
set_option maxRecDepth 100000 in
set_option maxHeartbeats 3200000 in
theorem Do_touch_12 (hc : c.Ok) (h : PNx w F c D p m) (hf : Fine p m) (a b n : Int) (BA SA : Option Addr) (bc sn sc : Nat) (bs : List UInt8) (_sides : List Int) {k : Nat} {f : Flt} (hk : p.way[k]? = some f) (ha : a = (k : Int)) : Calls Try.prog 19 #[.pointer (some ⟨D, 0, none⟩), .agg #[.int .i64 12, .int .i64 a, .int .i64 b, .int .i64 n, .slice BA bs.length bc, .int .i64 0, .int .i64 0, .int .i64 0, .int .i64 0, .string ByteArray.empty, .string ByteArray.empty, .string ByteArray.empty, .slice SA sn sc]] w (StepP w F c D (m + 1) (.int .i64 0) ({ p with way := p.way.eraseIdx k })) := by
  have hb0 := one_box' w (.cells #[.int .i64 12, .int .i64 a, .int .i64 b, .int .i64 n, .slice BA bs.length bc, .int .i64 0, .int .i64 0, .int .i64 0, .int .i64 0, .string ByteArray.empty, .string ByteArray.empty, .string ByteArray.empty, .slice SA sn sc] 41)
  have hE := Blk.new w 41 #[.int .i64 12, .int .i64 a, .int .i64 b, .int .i64 n, .slice BA bs.length bc, .int .i64 0, .int .i64 0, .int .i64 0, .int .i64 0, .string ByteArray.empty, .string ByteArray.empty, .string ByteArray.empty, .slice SA sn sc]
  obtain ⟨w0, hw0⟩ : ∃ w0, w0 = w.alloc (.cells #[.int .i64 12, .int .i64 a, .int .i64 b, .int .i64 n, .slice BA bs.length bc, .int .i64 0, .int .i64 0, .int .i64 0, .int .i64 0, .string ByteArray.empty, .string ByteArray.empty, .string ByteArray.empty, .slice SA sn sc] 41) := ⟨_, rfl⟩
  rw [← hw0] at hb0 hE
  have HW0 := Lib.hid hw0
  have hs0 := hb0.size
  have x1 : w0.cell? ⟨w.heap.size, 1, none⟩ = some (.int .i64 a) := hE.cell 1
  have x2 : w0.cell? ⟨w.heap.size, 2, none⟩ = some (.int .i64 b) := hE.cell 2
  have hb1 := one_box' w0 (.cells #[.int .i64 a, .int .i64 b] 89)
  have hX := Blk.new w0 89 #[.int .i64 a, .int .i64 b]
  have hE1 := hE.over hb1
  obtain ⟨w1, hw1⟩ : ∃ w1, w1 = w0.alloc (.cells #[.int .i64 a, .int .i64 b] 89) := ⟨_, rfl⟩
  rw [← hw1] at hb1 hX hE1
  have HW1 := Lib.hid hw1
  have hb01 : Below w.heap.size w w1 := hb0.trans (hb1.mono hs0)
  have hp1 := h.below hb01
  have HB := Lib.hid hb01
  have HP := Lib.hid h
  have HC := Lib.hid hc
  have HFI := Lib.hid hf
  have k0 : w1.cell? ⟨w.heap.size, 0, none⟩ = some (.int .i64 12) := hE1.cell 0
  have HEV : Hid (∀ W, Below w1.heap.size w1 W → Blk W w.heap.size 41 #[.int .i64 12, .int .i64 a, .int .i64 b, .int .i64 n, .slice BA bs.length bc, .int .i64 0, .int .i64 0, .int .i64 0, .int .i64 0, .string ByteArray.empty, .string ByteArray.empty, .string ByteArray.empty, .slice SA sn sc] ∧ Blk W w0.heap.size 89 #[.int .i64 a, .int .i64 b]) := Lib.hid fun W hW => ⟨hE1.over hW, hX.over hW⟩
  have hfm : f ∈ p.way := List.mem_of_getElem? hk
  obtain ⟨P, S, L, g, cap, X, y, hP, hkX, hXl, hXc, hx, hxw⟩ := hp1.flt0 hk hf.way
  have HT := Lib.hid fun (dd : Nat) => touch_12 (hp1.below (below_drewN (Below.refl _ _) dd)) hk hf.way a b n BA SA bs.length bc sn sc
  have c6 : w1.cell? ⟨D, 6, none⟩ = some (.slice (some ⟨g, 0, none⟩) X.length cap) := hP.blk.cell 6
  rw [← ha] at HT
  have e0 : decide (a < 0) = false := by simp; omega
  have h0 : ¬ a < 0 := by omega
  have h1 : ¬ (X.length : Int) ≤ a := by omega
  have e1 : decide (a ≥ (X.length : Int)) = false := by simp; omega
  have v0 : w1.cell? ⟨w.heap.size, 0, none⟩ = some (.int .i64 12) := (hE1).cell 0
  have v1 : w1.cell? ⟨w.heap.size, 1, none⟩ = some (.int .i64 a) := (hE1).cell 1
  have v2 : w1.cell? ⟨w.heap.size, 2, none⟩ = some (.int .i64 b) := (hE1).cell 2
  have v3 : w1.cell? ⟨w.heap.size, 3, none⟩ = some (.int .i64 n) := (hE1).cell 3
  have v4 : w1.cell? ⟨w.heap.size, 4, none⟩ = some (.slice BA bs.length bc) := (hE1).cell 4
  have v5 : w1.cell? ⟨w.heap.size, 5, none⟩ = some (.int .i64 0) := (hE1).cell 5
  have v6 : w1.cell? ⟨w.heap.size, 6, none⟩ = some (.int .i64 0) := (hE1).cell 6
  have v7 : w1.cell? ⟨w.heap.size, 7, none⟩ = some (.int .i64 0) := (hE1).cell 7
  have v8 : w1.cell? ⟨w.heap.size, 8, none⟩ = some (.int .i64 0) := (hE1).cell 8
  have v9 : w1.cell? ⟨w.heap.size, 9, none⟩ = some (.string ByteArray.empty) := (hE1).cell 9
  have v10 : w1.cell? ⟨w.heap.size, 10, none⟩ = some (.string ByteArray.empty) := (hE1).cell 10
  have v11 : w1.cell? ⟨w.heap.size, 11, none⟩ = some (.string ByteArray.empty) := (hE1).cell 11
  have v12 : w1.cell? ⟨w.heap.size, 12, none⟩ = some (.slice SA sn sc) := (hE1).cell 12
  have HAA := Lib.hid ha
  clear ha hk hP hx hxw hfm
  clear hw0 hw1 hb0 hb1 hE hE1 hX hb01 hp1 h hc hf
  go_enter Try.func19, Try.ntmps19
  go_upto_region 1 with fail
  rw [← HW0.out]
  go_upto_region 2 with fail
  rw [← HW1.out]
  clear x1 x2
  go_upto_region 15 with fail
  go_quiet (fail)
  have HT2 := Lib.hid (HT.out nq)
  have HB2 : Hid (Below w.heap.size w (w1.drewN nq)) := Lib.hid (below_drewN HB.out nq)
  have HEW : Hid (Blk (w1.drewN nq) w.heap.size 41 #[.int .i64 12, .int .i64 a, .int .i64 b, .int .i64 n, .slice BA bs.length bc, .int .i64 0, .int .i64 0, .int .i64 0, .int .i64 0, .string ByteArray.empty, .string ByteArray.empty, .string ByteArray.empty, .slice SA sn sc]) := Lib.hid (HEV.out _ (below_drewN (Below.refl _ _) nq)).1
  clear c6 v0 v1 v2 v3 v4 v5 v6 v7 v8 v9 v10 v11 v12 k0
  generalize w1.drewN nq = w2 at *
  have v0 : w2.cell? ⟨w.heap.size, 0, none⟩ = some (.int .i64 12) := (HEW.out).cell 0
  have v1 : w2.cell? ⟨w.heap.size, 1, none⟩ = some (.int .i64 a) := (HEW.out).cell 1
  have v2 : w2.cell? ⟨w.heap.size, 2, none⟩ = some (.int .i64 b) := (HEW.out).cell 2
  have v3 : w2.cell? ⟨w.heap.size, 3, none⟩ = some (.int .i64 n) := (HEW.out).cell 3
  have v4 : w2.cell? ⟨w.heap.size, 4, none⟩ = some (.slice BA bs.length bc) := (HEW.out).cell 4
  have v5 : w2.cell? ⟨w.heap.size, 5, none⟩ = some (.int .i64 0) := (HEW.out).cell 5
  have v6 : w2.cell? ⟨w.heap.size, 6, none⟩ = some (.int .i64 0) := (HEW.out).cell 6
  have v7 : w2.cell? ⟨w.heap.size, 7, none⟩ = some (.int .i64 0) := (HEW.out).cell 7
  have v8 : w2.cell? ⟨w.heap.size, 8, none⟩ = some (.int .i64 0) := (HEW.out).cell 8
  have v9 : w2.cell? ⟨w.heap.size, 9, none⟩ = some (.string ByteArray.empty) := (HEW.out).cell 9
  have v10 : w2.cell? ⟨w.heap.size, 10, none⟩ = some (.string ByteArray.empty) := (HEW.out).cell 10
  have v11 : w2.cell? ⟨w.heap.size, 11, none⟩ = some (.string ByteArray.empty) := (HEW.out).cell 11
  have v12 : w2.cell? ⟨w.heap.size, 12, none⟩ = some (.slice SA sn sc) := (HEW.out).cell 12

  go_wp2_with fail
  refine HT2.out.mono ?_
  intro e3 w3 h3
  obtain rfl := h3.1
  have HS := Lib.hid ((StepP.behind (v' := .int .i64 0) HB2.out h3).mono (Nat.le_succ m))
  clear h3
  go_wp2
  go_ret
  exact HS.out
set_option maxRecDepth 100000 in
set_option maxHeartbeats 3200000 in
theorem Do_touch_13no (hc : c.Ok) (h : PNx w F c D p m) (hf : Fine p m) (a b n : Int) (BA SA : Option Addr) (bc sn sc : Nat) (bs : List UInt8) (_sides : List Int) {k : Nat} {f : Flt} (hk : p.way[k]? = some f) (ha : a = (k : Int)) (hrm : c.room ≤ p.way.length) : Calls Try.prog 19 #[.pointer (some ⟨D, 0, none⟩), .agg #[.int .i64 13, .int .i64 a, .int .i64 b, .int .i64 n, .slice BA bs.length bc, .int .i64 0, .int .i64 0, .int .i64 0, .int .i64 0, .string ByteArray.empty, .string ByteArray.empty, .string ByteArray.empty, .slice SA sn sc]] w (StepP w F c D (m + 1) (.int .i64 31) (p)) := by
  have hb0 := one_box' w (.cells #[.int .i64 13, .int .i64 a, .int .i64 b, .int .i64 n, .slice BA bs.length bc, .int .i64 0, .int .i64 0, .int .i64 0, .int .i64 0, .string ByteArray.empty, .string ByteArray.empty, .string ByteArray.empty, .slice SA sn sc] 41)
  have hE := Blk.new w 41 #[.int .i64 13, .int .i64 a, .int .i64 b, .int .i64 n, .slice BA bs.length bc, .int .i64 0, .int .i64 0, .int .i64 0, .int .i64 0, .string ByteArray.empty, .string ByteArray.empty, .string ByteArray.empty, .slice SA sn sc]
  obtain ⟨w0, hw0⟩ : ∃ w0, w0 = w.alloc (.cells #[.int .i64 13, .int .i64 a, .int .i64 b, .int .i64 n, .slice BA bs.length bc, .int .i64 0, .int .i64 0, .int .i64 0, .int .i64 0, .string ByteArray.empty, .string ByteArray.empty, .string ByteArray.empty, .slice SA sn sc] 41) := ⟨_, rfl⟩
  rw [← hw0] at hb0 hE
  have HW0 := Lib.hid hw0
  have hs0 := hb0.size
  have x1 : w0.cell? ⟨w.heap.size, 1, none⟩ = some (.int .i64 a) := hE.cell 1
  have x2 : w0.cell? ⟨w.heap.size, 2, none⟩ = some (.int .i64 b) := hE.cell 2
  have hb1 := one_box' w0 (.cells #[.int .i64 a, .int .i64 b] 89)
  have hX := Blk.new w0 89 #[.int .i64 a, .int .i64 b]
  have hE1 := hE.over hb1
  obtain ⟨w1, hw1⟩ : ∃ w1, w1 = w0.alloc (.cells #[.int .i64 a, .int .i64 b] 89) := ⟨_, rfl⟩
  rw [← hw1] at hb1 hX hE1
  have HW1 := Lib.hid hw1
  have hb01 : Below w.heap.size w w1 := hb0.trans (hb1.mono hs0)
  have hp1 := h.below hb01
  have HB := Lib.hid hb01
  have HP := Lib.hid h
  have HC := Lib.hid hc
  have HFI := Lib.hid hf
  have k0 : w1.cell? ⟨w.heap.size, 0, none⟩ = some (.int .i64 13) := hE1.cell 0
  have HEV : Hid (∀ W, Below w1.heap.size w1 W → Blk W w.heap.size 41 #[.int .i64 13, .int .i64 a, .int .i64 b, .int .i64 n, .slice BA bs.length bc, .int .i64 0, .int .i64 0, .int .i64 0, .int .i64 0, .string ByteArray.empty, .string ByteArray.empty, .string ByteArray.empty, .slice SA sn sc] ∧ Blk W w0.heap.size 89 #[.int .i64 a, .int .i64 b]) := Lib.hid fun W hW => ⟨hE1.over hW, hX.over hW⟩
  have hfm : f ∈ p.way := List.mem_of_getElem? hk
  obtain ⟨P, S, L, g, cap, X, y, hP, hkX, hXl, hXc, hx, hxw⟩ := hp1.flt0 hk hf.way
  have HT := Lib.hid fun (dd : Nat) => touch_13no (hp1.below (below_drewN (Below.refl _ _) dd)) hk hf.way a b n BA SA bs.length bc sn sc hrm
  have c6 : w1.cell? ⟨D, 6, none⟩ = some (.slice (some ⟨g, 0, none⟩) X.length cap) := hP.blk.cell 6
  rw [← ha] at HT
  have e0 : decide (a < 0) = false := by simp; omega
  have h0 : ¬ a < 0 := by omega
  have h1 : ¬ (X.length : Int) ≤ a := by omega
  have e1 : decide (a ≥ (X.length : Int)) = false := by simp; omega
  have v0 : w1.cell? ⟨w.heap.size, 0, none⟩ = some (.int .i64 13) := (hE1).cell 0
  have v1 : w1.cell? ⟨w.heap.size, 1, none⟩ = some (.int .i64 a) := (hE1).cell 1
  have v2 : w1.cell? ⟨w.heap.size, 2, none⟩ = some (.int .i64 b) := (hE1).cell 2
  have v3 : w1.cell? ⟨w.heap.size, 3, none⟩ = some (.int .i64 n) := (hE1).cell 3
  have v4 : w1.cell? ⟨w.heap.size, 4, none⟩ = some (.slice BA bs.length bc) := (hE1).cell 4
  have v5 : w1.cell? ⟨w.heap.size, 5, none⟩ = some (.int .i64 0) := (hE1).cell 5
  have v6 : w1.cell? ⟨w.heap.size, 6, none⟩ = some (.int .i64 0) := (hE1).cell 6
  have v7 : w1.cell? ⟨w.heap.size, 7, none⟩ = some (.int .i64 0) := (hE1).cell 7
  have v8 : w1.cell? ⟨w.heap.size, 8, none⟩ = some (.int .i64 0) := (hE1).cell 8
  have v9 : w1.cell? ⟨w.heap.size, 9, none⟩ = some (.string ByteArray.empty) := (hE1).cell 9
  have v10 : w1.cell? ⟨w.heap.size, 10, none⟩ = some (.string ByteArray.empty) := (hE1).cell 10
  have v11 : w1.cell? ⟨w.heap.size, 11, none⟩ = some (.string ByteArray.empty) := (hE1).cell 11
  have v12 : w1.cell? ⟨w.heap.size, 12, none⟩ = some (.slice SA sn sc) := (hE1).cell 12
  have HAA := Lib.hid ha
  clear ha hk hP hx hxw hfm
  clear hw0 hw1 hb0 hb1 hE hE1 hX hb01 hp1 h hc hf
  go_enter Try.func19, Try.ntmps19
  go_upto_region 1 with fail
  rw [← HW0.out]
  go_upto_region 2 with fail
  rw [← HW1.out]
  clear x1 x2
  go_upto_region 15 with fail
  go_quiet (fail)
  have HT2 := Lib.hid (HT.out nq)
  have HB2 : Hid (Below w.heap.size w (w1.drewN nq)) := Lib.hid (below_drewN HB.out nq)
  have HEW : Hid (Blk (w1.drewN nq) w.heap.size 41 #[.int .i64 13, .int .i64 a, .int .i64 b, .int .i64 n, .slice BA bs.length bc, .int .i64 0, .int .i64 0, .int .i64 0, .int .i64 0, .string ByteArray.empty, .string ByteArray.empty, .string ByteArray.empty, .slice SA sn sc]) := Lib.hid (HEV.out _ (below_drewN (Below.refl _ _) nq)).1
  clear c6 v0 v1 v2 v3 v4 v5 v6 v7 v8 v9 v10 v11 v12 k0
  generalize w1.drewN nq = w2 at *
  have v0 : w2.cell? ⟨w.heap.size, 0, none⟩ = some (.int .i64 13) := (HEW.out).cell 0
  have v1 : w2.cell? ⟨w.heap.size, 1, none⟩ = some (.int .i64 a) := (HEW.out).cell 1
  have v2 : w2.cell? ⟨w.heap.size, 2, none⟩ = some (.int .i64 b) := (HEW.out).cell 2
  have v3 : w2.cell? ⟨w.heap.size, 3, none⟩ = some (.int .i64 n) := (HEW.out).cell 3
  have v4 : w2.cell? ⟨w.heap.size, 4, none⟩ = some (.slice BA bs.length bc) := (HEW.out).cell 4
  have v5 : w2.cell? ⟨w.heap.size, 5, none⟩ = some (.int .i64 0) := (HEW.out).cell 5
  have v6 : w2.cell? ⟨w.heap.size, 6, none⟩ = some (.int .i64 0) := (HEW.out).cell 6
  have v7 : w2.cell? ⟨w.heap.size, 7, none⟩ = some (.int .i64 0) := (HEW.out).cell 7
  have v8 : w2.cell? ⟨w.heap.size, 8, none⟩ = some (.int .i64 0) := (HEW.out).cell 8
  have v9 : w2.cell? ⟨w.heap.size, 9, none⟩ = some (.string ByteArray.empty) := (HEW.out).cell 9
  have v10 : w2.cell? ⟨w.heap.size, 10, none⟩ = some (.string ByteArray.empty) := (HEW.out).cell 10
  have v11 : w2.cell? ⟨w.heap.size, 11, none⟩ = some (.string ByteArray.empty) := (HEW.out).cell 11
  have v12 : w2.cell? ⟨w.heap.size, 12, none⟩ = some (.slice SA sn sc) := (HEW.out).cell 12

  go_wp2_with fail
  refine HT2.out.mono ?_
  intro e3 w3 h3
  obtain rfl := h3.1
  have HS := Lib.hid ((StepP.behind (v' := .int .i64 31) HB2.out h3).mono (Nat.le_succ m))
  clear h3
  go_wp2
  go_ret
  exact HS.out
set_option maxRecDepth 100000 in
set_option maxHeartbeats 3200000 in
theorem Do_touch_13yes (hc : c.Ok) (h : PNx w F c D p m) (hf : Fine p m) (a b n : Int) (BA SA : Option Addr) (bc sn sc : Nat) (bs : List UInt8) (_sides : List Int) {k : Nat} {f : Flt} (hk : p.way[k]? = some f) (ha : a = (k : Int)) (hrm : ¬ c.room ≤ p.way.length) : Calls Try.prog 19 #[.pointer (some ⟨D, 0, none⟩), .agg #[.int .i64 13, .int .i64 a, .int .i64 b, .int .i64 n, .slice BA bs.length bc, .int .i64 0, .int .i64 0, .int .i64 0, .int .i64 0, .string ByteArray.empty, .string ByteArray.empty, .string ByteArray.empty, .slice SA sn sc]] w (StepP w F c D (m + 1) (.int .i64 0) (addP p f.src f.dst f.due f.bs)) := by
  have hb0 := one_box' w (.cells #[.int .i64 13, .int .i64 a, .int .i64 b, .int .i64 n, .slice BA bs.length bc, .int .i64 0, .int .i64 0, .int .i64 0, .int .i64 0, .string ByteArray.empty, .string ByteArray.empty, .string ByteArray.empty, .slice SA sn sc] 41)
  have hE := Blk.new w 41 #[.int .i64 13, .int .i64 a, .int .i64 b, .int .i64 n, .slice BA bs.length bc, .int .i64 0, .int .i64 0, .int .i64 0, .int .i64 0, .string ByteArray.empty, .string ByteArray.empty, .string ByteArray.empty, .slice SA sn sc]
  obtain ⟨w0, hw0⟩ : ∃ w0, w0 = w.alloc (.cells #[.int .i64 13, .int .i64 a, .int .i64 b, .int .i64 n, .slice BA bs.length bc, .int .i64 0, .int .i64 0, .int .i64 0, .int .i64 0, .string ByteArray.empty, .string ByteArray.empty, .string ByteArray.empty, .slice SA sn sc] 41) := ⟨_, rfl⟩
  rw [← hw0] at hb0 hE
  have HW0 := Lib.hid hw0
  have hs0 := hb0.size
  have x1 : w0.cell? ⟨w.heap.size, 1, none⟩ = some (.int .i64 a) := hE.cell 1
  have x2 : w0.cell? ⟨w.heap.size, 2, none⟩ = some (.int .i64 b) := hE.cell 2
  have hb1 := one_box' w0 (.cells #[.int .i64 a, .int .i64 b] 89)
  have hX := Blk.new w0 89 #[.int .i64 a, .int .i64 b]
  have hE1 := hE.over hb1
  obtain ⟨w1, hw1⟩ : ∃ w1, w1 = w0.alloc (.cells #[.int .i64 a, .int .i64 b] 89) := ⟨_, rfl⟩
  rw [← hw1] at hb1 hX hE1
  have HW1 := Lib.hid hw1
  have hb01 : Below w.heap.size w w1 := hb0.trans (hb1.mono hs0)
  have hp1 := h.below hb01
  have HB := Lib.hid hb01
  have HP := Lib.hid h
  have HC := Lib.hid hc
  have HFI := Lib.hid hf
  have k0 : w1.cell? ⟨w.heap.size, 0, none⟩ = some (.int .i64 13) := hE1.cell 0
  have HEV : Hid (∀ W, Below w1.heap.size w1 W → Blk W w.heap.size 41 #[.int .i64 13, .int .i64 a, .int .i64 b, .int .i64 n, .slice BA bs.length bc, .int .i64 0, .int .i64 0, .int .i64 0, .int .i64 0, .string ByteArray.empty, .string ByteArray.empty, .string ByteArray.empty, .slice SA sn sc] ∧ Blk W w0.heap.size 89 #[.int .i64 a, .int .i64 b]) := Lib.hid fun W hW => ⟨hE1.over hW, hX.over hW⟩
  have hfm : f ∈ p.way := List.mem_of_getElem? hk
  obtain ⟨P, S, L, g, cap, X, y, hP, hkX, hXl, hXc, hx, hxw⟩ := hp1.flt0 hk hf.way
  have HT := Lib.hid fun (dd : Nat) => touch_13yes (hp1.below (below_drewN (Below.refl _ _) dd)) hk hf.way a b n BA SA bs.length bc sn sc hrm hf.last (by have := (hf.fl f hfm).2; omega)
  have c6 : w1.cell? ⟨D, 6, none⟩ = some (.slice (some ⟨g, 0, none⟩) X.length cap) := hP.blk.cell 6
  rw [← ha] at HT
  have e0 : decide (a < 0) = false := by simp; omega
  have h0 : ¬ a < 0 := by omega
  have h1 : ¬ (X.length : Int) ≤ a := by omega
  have e1 : decide (a ≥ (X.length : Int)) = false := by simp; omega
  have v0 : w1.cell? ⟨w.heap.size, 0, none⟩ = some (.int .i64 13) := (hE1).cell 0
  have v1 : w1.cell? ⟨w.heap.size, 1, none⟩ = some (.int .i64 a) := (hE1).cell 1
  have v2 : w1.cell? ⟨w.heap.size, 2, none⟩ = some (.int .i64 b) := (hE1).cell 2
  have v3 : w1.cell? ⟨w.heap.size, 3, none⟩ = some (.int .i64 n) := (hE1).cell 3
  have v4 : w1.cell? ⟨w.heap.size, 4, none⟩ = some (.slice BA bs.length bc) := (hE1).cell 4
  have v5 : w1.cell? ⟨w.heap.size, 5, none⟩ = some (.int .i64 0) := (hE1).cell 5
  have v6 : w1.cell? ⟨w.heap.size, 6, none⟩ = some (.int .i64 0) := (hE1).cell 6
  have v7 : w1.cell? ⟨w.heap.size, 7, none⟩ = some (.int .i64 0) := (hE1).cell 7
  have v8 : w1.cell? ⟨w.heap.size, 8, none⟩ = some (.int .i64 0) := (hE1).cell 8
  have v9 : w1.cell? ⟨w.heap.size, 9, none⟩ = some (.string ByteArray.empty) := (hE1).cell 9
  have v10 : w1.cell? ⟨w.heap.size, 10, none⟩ = some (.string ByteArray.empty) := (hE1).cell 10
  have v11 : w1.cell? ⟨w.heap.size, 11, none⟩ = some (.string ByteArray.empty) := (hE1).cell 11
  have v12 : w1.cell? ⟨w.heap.size, 12, none⟩ = some (.slice SA sn sc) := (hE1).cell 12
  have HAA := Lib.hid ha
  clear ha hk hP hx hxw hfm
  clear hw0 hw1 hb0 hb1 hE hE1 hX hb01 hp1 h hc hf
  go_enter Try.func19, Try.ntmps19
  go_upto_region 1 with fail
  rw [← HW0.out]
  go_upto_region 2 with fail
  rw [← HW1.out]
  clear x1 x2
  go_upto_region 15 with fail
  go_quiet (fail)
  have HT2 := Lib.hid (HT.out nq)
  have HB2 : Hid (Below w.heap.size w (w1.drewN nq)) := Lib.hid (below_drewN HB.out nq)
  have HEW : Hid (Blk (w1.drewN nq) w.heap.size 41 #[.int .i64 13, .int .i64 a, .int .i64 b, .int .i64 n, .slice BA bs.length bc, .int .i64 0, .int .i64 0, .int .i64 0, .int .i64 0, .string ByteArray.empty, .string ByteArray.empty, .string ByteArray.empty, .slice SA sn sc]) := Lib.hid (HEV.out _ (below_drewN (Below.refl _ _) nq)).1
  clear c6 v0 v1 v2 v3 v4 v5 v6 v7 v8 v9 v10 v11 v12 k0
  generalize w1.drewN nq = w2 at *
  have v0 : w2.cell? ⟨w.heap.size, 0, none⟩ = some (.int .i64 13) := (HEW.out).cell 0
  have v1 : w2.cell? ⟨w.heap.size, 1, none⟩ = some (.int .i64 a) := (HEW.out).cell 1
  have v2 : w2.cell? ⟨w.heap.size, 2, none⟩ = some (.int .i64 b) := (HEW.out).cell 2
  have v3 : w2.cell? ⟨w.heap.size, 3, none⟩ = some (.int .i64 n) := (HEW.out).cell 3
  have v4 : w2.cell? ⟨w.heap.size, 4, none⟩ = some (.slice BA bs.length bc) := (HEW.out).cell 4
  have v5 : w2.cell? ⟨w.heap.size, 5, none⟩ = some (.int .i64 0) := (HEW.out).cell 5
  have v6 : w2.cell? ⟨w.heap.size, 6, none⟩ = some (.int .i64 0) := (HEW.out).cell 6
  have v7 : w2.cell? ⟨w.heap.size, 7, none⟩ = some (.int .i64 0) := (HEW.out).cell 7
  have v8 : w2.cell? ⟨w.heap.size, 8, none⟩ = some (.int .i64 0) := (HEW.out).cell 8
  have v9 : w2.cell? ⟨w.heap.size, 9, none⟩ = some (.string ByteArray.empty) := (HEW.out).cell 9
  have v10 : w2.cell? ⟨w.heap.size, 10, none⟩ = some (.string ByteArray.empty) := (HEW.out).cell 10
  have v11 : w2.cell? ⟨w.heap.size, 11, none⟩ = some (.string ByteArray.empty) := (HEW.out).cell 11
  have v12 : w2.cell? ⟨w.heap.size, 12, none⟩ = some (.slice SA sn sc) := (HEW.out).cell 12

  go_wp2_with fail
  refine HT2.out.mono ?_
  intro e3 w3 h3
  obtain rfl := h3.1
  have HS := Lib.hid ((StepP.behind (v' := .int .i64 0) HB2.out h3).mono (Nat.le_succ m))
  clear h3
  go_wp2
  go_ret
  exact HS.out
set_option maxRecDepth 100000 in
set_option maxHeartbeats 3200000 in
theorem Do_touch_15no (hc : c.Ok) (h : PNx w F c D p m) (hf : Fine p m) (a b n : Int) (BA SA : Option Addr) (bc sn sc : Nat) (bs : List UInt8) (_sides : List Int) {k : Nat} {f : Flt} (hk : p.way[k]? = some f) (ha : a = (k : Int)) (hno : n < 1 ∨ 16 < n) : Calls Try.prog 19 #[.pointer (some ⟨D, 0, none⟩), .agg #[.int .i64 15, .int .i64 a, .int .i64 b, .int .i64 n, .slice BA bs.length bc, .int .i64 0, .int .i64 0, .int .i64 0, .int .i64 0, .string ByteArray.empty, .string ByteArray.empty, .string ByteArray.empty, .slice SA sn sc]] w (StepP w F c D (m + 1) (.int .i64 1) (p)) := by
  have hb0 := one_box' w (.cells #[.int .i64 15, .int .i64 a, .int .i64 b, .int .i64 n, .slice BA bs.length bc, .int .i64 0, .int .i64 0, .int .i64 0, .int .i64 0, .string ByteArray.empty, .string ByteArray.empty, .string ByteArray.empty, .slice SA sn sc] 41)
  have hE := Blk.new w 41 #[.int .i64 15, .int .i64 a, .int .i64 b, .int .i64 n, .slice BA bs.length bc, .int .i64 0, .int .i64 0, .int .i64 0, .int .i64 0, .string ByteArray.empty, .string ByteArray.empty, .string ByteArray.empty, .slice SA sn sc]
  obtain ⟨w0, hw0⟩ : ∃ w0, w0 = w.alloc (.cells #[.int .i64 15, .int .i64 a, .int .i64 b, .int .i64 n, .slice BA bs.length bc, .int .i64 0, .int .i64 0, .int .i64 0, .int .i64 0, .string ByteArray.empty, .string ByteArray.empty, .string ByteArray.empty, .slice SA sn sc] 41) := ⟨_, rfl⟩
  rw [← hw0] at hb0 hE
  have HW0 := Lib.hid hw0
  have hs0 := hb0.size
  have x1 : w0.cell? ⟨w.heap.size, 1, none⟩ = some (.int .i64 a) := hE.cell 1
  have x2 : w0.cell? ⟨w.heap.size, 2, none⟩ = some (.int .i64 b) := hE.cell 2
  have hb1 := one_box' w0 (.cells #[.int .i64 a, .int .i64 b] 89)
  have hX := Blk.new w0 89 #[.int .i64 a, .int .i64 b]
  have hE1 := hE.over hb1
  obtain ⟨w1, hw1⟩ : ∃ w1, w1 = w0.alloc (.cells #[.int .i64 a, .int .i64 b] 89) := ⟨_, rfl⟩
  rw [← hw1] at hb1 hX hE1
  have HW1 := Lib.hid hw1
  have hb01 : Below w.heap.size w w1 := hb0.trans (hb1.mono hs0)
  have hp1 := h.below hb01
  have HB := Lib.hid hb01
  have HP := Lib.hid h
  have HC := Lib.hid hc
  have HFI := Lib.hid hf
  have k0 : w1.cell? ⟨w.heap.size, 0, none⟩ = some (.int .i64 15) := hE1.cell 0
  have HEV : Hid (∀ W, Below w1.heap.size w1 W → Blk W w.heap.size 41 #[.int .i64 15, .int .i64 a, .int .i64 b, .int .i64 n, .slice BA bs.length bc, .int .i64 0, .int .i64 0, .int .i64 0, .int .i64 0, .string ByteArray.empty, .string ByteArray.empty, .string ByteArray.empty, .slice SA sn sc] ∧ Blk W w0.heap.size 89 #[.int .i64 a, .int .i64 b]) := Lib.hid fun W hW => ⟨hE1.over hW, hX.over hW⟩
  have hfm : f ∈ p.way := List.mem_of_getElem? hk
  obtain ⟨P, S, L, g, cap, X, y, hP, hkX, hXl, hXc, hx, hxw⟩ := hp1.flt0 hk hf.way
  have HT := Lib.hid fun (dd : Nat) => touch_15no (hp1.below (below_drewN (Below.refl _ _) dd)) hk hf.way a b n BA SA bs.length bc sn sc hno
  have c6 : w1.cell? ⟨D, 6, none⟩ = some (.slice (some ⟨g, 0, none⟩) X.length cap) := hP.blk.cell 6
  rw [← ha] at HT
  have e0 : decide (a < 0) = false := by simp; omega
  have h0 : ¬ a < 0 := by omega
  have h1 : ¬ (X.length : Int) ≤ a := by omega
  have e1 : decide (a ≥ (X.length : Int)) = false := by simp; omega
  have v0 : w1.cell? ⟨w.heap.size, 0, none⟩ = some (.int .i64 15) := (hE1).cell 0
  have v1 : w1.cell? ⟨w.heap.size, 1, none⟩ = some (.int .i64 a) := (hE1).cell 1
  have v2 : w1.cell? ⟨w.heap.size, 2, none⟩ = some (.int .i64 b) := (hE1).cell 2
  have v3 : w1.cell? ⟨w.heap.size, 3, none⟩ = some (.int .i64 n) := (hE1).cell 3
  have v4 : w1.cell? ⟨w.heap.size, 4, none⟩ = some (.slice BA bs.length bc) := (hE1).cell 4
  have v5 : w1.cell? ⟨w.heap.size, 5, none⟩ = some (.int .i64 0) := (hE1).cell 5
  have v6 : w1.cell? ⟨w.heap.size, 6, none⟩ = some (.int .i64 0) := (hE1).cell 6
  have v7 : w1.cell? ⟨w.heap.size, 7, none⟩ = some (.int .i64 0) := (hE1).cell 7
  have v8 : w1.cell? ⟨w.heap.size, 8, none⟩ = some (.int .i64 0) := (hE1).cell 8
  have v9 : w1.cell? ⟨w.heap.size, 9, none⟩ = some (.string ByteArray.empty) := (hE1).cell 9
  have v10 : w1.cell? ⟨w.heap.size, 10, none⟩ = some (.string ByteArray.empty) := (hE1).cell 10
  have v11 : w1.cell? ⟨w.heap.size, 11, none⟩ = some (.string ByteArray.empty) := (hE1).cell 11
  have v12 : w1.cell? ⟨w.heap.size, 12, none⟩ = some (.slice SA sn sc) := (hE1).cell 12
  have HAA := Lib.hid ha
  clear ha hk hP hx hxw hfm
  clear hw0 hw1 hb0 hb1 hE hE1 hX hb01 hp1 h hc hf
  go_enter Try.func19, Try.ntmps19
  go_upto_region 1 with fail
  rw [← HW0.out]
  go_upto_region 2 with fail
  rw [← HW1.out]
  clear x1 x2
  go_upto_region 15 with fail
  go_quiet (fail)
  have HT2 := Lib.hid (HT.out nq)
  have HB2 : Hid (Below w.heap.size w (w1.drewN nq)) := Lib.hid (below_drewN HB.out nq)
  have HEW : Hid (Blk (w1.drewN nq) w.heap.size 41 #[.int .i64 15, .int .i64 a, .int .i64 b, .int .i64 n, .slice BA bs.length bc, .int .i64 0, .int .i64 0, .int .i64 0, .int .i64 0, .string ByteArray.empty, .string ByteArray.empty, .string ByteArray.empty, .slice SA sn sc]) := Lib.hid (HEV.out _ (below_drewN (Below.refl _ _) nq)).1
  clear c6 v0 v1 v2 v3 v4 v5 v6 v7 v8 v9 v10 v11 v12 k0
  generalize w1.drewN nq = w2 at *
  have v0 : w2.cell? ⟨w.heap.size, 0, none⟩ = some (.int .i64 15) := (HEW.out).cell 0
  have v1 : w2.cell? ⟨w.heap.size, 1, none⟩ = some (.int .i64 a) := (HEW.out).cell 1
  have v2 : w2.cell? ⟨w.heap.size, 2, none⟩ = some (.int .i64 b) := (HEW.out).cell 2
  have v3 : w2.cell? ⟨w.heap.size, 3, none⟩ = some (.int .i64 n) := (HEW.out).cell 3
  have v4 : w2.cell? ⟨w.heap.size, 4, none⟩ = some (.slice BA bs.length bc) := (HEW.out).cell 4
  have v5 : w2.cell? ⟨w.heap.size, 5, none⟩ = some (.int .i64 0) := (HEW.out).cell 5
  have v6 : w2.cell? ⟨w.heap.size, 6, none⟩ = some (.int .i64 0) := (HEW.out).cell 6
  have v7 : w2.cell? ⟨w.heap.size, 7, none⟩ = some (.int .i64 0) := (HEW.out).cell 7
  have v8 : w2.cell? ⟨w.heap.size, 8, none⟩ = some (.int .i64 0) := (HEW.out).cell 8
  have v9 : w2.cell? ⟨w.heap.size, 9, none⟩ = some (.string ByteArray.empty) := (HEW.out).cell 9
  have v10 : w2.cell? ⟨w.heap.size, 10, none⟩ = some (.string ByteArray.empty) := (HEW.out).cell 10
  have v11 : w2.cell? ⟨w.heap.size, 11, none⟩ = some (.string ByteArray.empty) := (HEW.out).cell 11
  have v12 : w2.cell? ⟨w.heap.size, 12, none⟩ = some (.slice SA sn sc) := (HEW.out).cell 12

  go_wp2_with fail
  refine HT2.out.mono ?_
  intro e3 w3 h3
  obtain rfl := h3.1
  have HS := Lib.hid ((StepP.behind (v' := .int .i64 1) HB2.out h3).mono (Nat.le_succ m))
  clear h3
  go_wp2
  go_ret
  exact HS.out
set_option maxRecDepth 100000 in
set_option maxHeartbeats 3200000 in
theorem Do_touch_15yes (hc : c.Ok) (h : PNx w F c D p m) (hf : Fine p m) (a b n : Int) (BA SA : Option Addr) (bc sn sc : Nat) (bs : List UInt8) (_sides : List Int) {k : Nat} {f : Flt} (hk : p.way[k]? = some f) (ha : a = (k : Int)) (d : Nat) (hd : n = (d : Int)) (hd1 : 1 ≤ d) (hd2 : d ≤ 16) : Calls Try.prog 19 #[.pointer (some ⟨D, 0, none⟩), .agg #[.int .i64 15, .int .i64 a, .int .i64 b, .int .i64 n, .slice BA bs.length bc, .int .i64 0, .int .i64 0, .int .i64 0, .int .i64 0, .string ByteArray.empty, .string ByteArray.empty, .string ByteArray.empty, .slice SA sn sc]] w (StepP w F c D (m + 1) (.int .i64 0) ({ p with way := p.way.set k { f with due := f.due + d } })) := by
  have hb0 := one_box' w (.cells #[.int .i64 15, .int .i64 a, .int .i64 b, .int .i64 n, .slice BA bs.length bc, .int .i64 0, .int .i64 0, .int .i64 0, .int .i64 0, .string ByteArray.empty, .string ByteArray.empty, .string ByteArray.empty, .slice SA sn sc] 41)
  have hE := Blk.new w 41 #[.int .i64 15, .int .i64 a, .int .i64 b, .int .i64 n, .slice BA bs.length bc, .int .i64 0, .int .i64 0, .int .i64 0, .int .i64 0, .string ByteArray.empty, .string ByteArray.empty, .string ByteArray.empty, .slice SA sn sc]
  obtain ⟨w0, hw0⟩ : ∃ w0, w0 = w.alloc (.cells #[.int .i64 15, .int .i64 a, .int .i64 b, .int .i64 n, .slice BA bs.length bc, .int .i64 0, .int .i64 0, .int .i64 0, .int .i64 0, .string ByteArray.empty, .string ByteArray.empty, .string ByteArray.empty, .slice SA sn sc] 41) := ⟨_, rfl⟩
  rw [← hw0] at hb0 hE
  have HW0 := Lib.hid hw0
  have hs0 := hb0.size
  have x1 : w0.cell? ⟨w.heap.size, 1, none⟩ = some (.int .i64 a) := hE.cell 1
  have x2 : w0.cell? ⟨w.heap.size, 2, none⟩ = some (.int .i64 b) := hE.cell 2
  have hb1 := one_box' w0 (.cells #[.int .i64 a, .int .i64 b] 89)
  have hX := Blk.new w0 89 #[.int .i64 a, .int .i64 b]
  have hE1 := hE.over hb1
  obtain ⟨w1, hw1⟩ : ∃ w1, w1 = w0.alloc (.cells #[.int .i64 a, .int .i64 b] 89) := ⟨_, rfl⟩
  rw [← hw1] at hb1 hX hE1
  have HW1 := Lib.hid hw1
  have hb01 : Below w.heap.size w w1 := hb0.trans (hb1.mono hs0)
  have hp1 := h.below hb01
  have HB := Lib.hid hb01
  have HP := Lib.hid h
  have HC := Lib.hid hc
  have HFI := Lib.hid hf
  have k0 : w1.cell? ⟨w.heap.size, 0, none⟩ = some (.int .i64 15) := hE1.cell 0
  have HEV : Hid (∀ W, Below w1.heap.size w1 W → Blk W w.heap.size 41 #[.int .i64 15, .int .i64 a, .int .i64 b, .int .i64 n, .slice BA bs.length bc, .int .i64 0, .int .i64 0, .int .i64 0, .int .i64 0, .string ByteArray.empty, .string ByteArray.empty, .string ByteArray.empty, .slice SA sn sc] ∧ Blk W w0.heap.size 89 #[.int .i64 a, .int .i64 b]) := Lib.hid fun W hW => ⟨hE1.over hW, hX.over hW⟩
  have hfm : f ∈ p.way := List.mem_of_getElem? hk
  obtain ⟨P, S, L, g, cap, X, y, hP, hkX, hXl, hXc, hx, hxw⟩ := hp1.flt0 hk hf.way
  have HT := Lib.hid fun (dd : Nat) => touch_15yes (hp1.below (below_drewN (Below.refl _ _) dd)) hk hf.way a b n BA SA bs.length bc sn sc d hd hd1 hd2 (hf.fl f hfm).1
  have c6 : w1.cell? ⟨D, 6, none⟩ = some (.slice (some ⟨g, 0, none⟩) X.length cap) := hP.blk.cell 6
  rw [← ha] at HT
  have e0 : decide (a < 0) = false := by simp; omega
  have h0 : ¬ a < 0 := by omega
  have h1 : ¬ (X.length : Int) ≤ a := by omega
  have e1 : decide (a ≥ (X.length : Int)) = false := by simp; omega
  have v0 : w1.cell? ⟨w.heap.size, 0, none⟩ = some (.int .i64 15) := (hE1).cell 0
  have v1 : w1.cell? ⟨w.heap.size, 1, none⟩ = some (.int .i64 a) := (hE1).cell 1
  have v2 : w1.cell? ⟨w.heap.size, 2, none⟩ = some (.int .i64 b) := (hE1).cell 2
  have v3 : w1.cell? ⟨w.heap.size, 3, none⟩ = some (.int .i64 n) := (hE1).cell 3
  have v4 : w1.cell? ⟨w.heap.size, 4, none⟩ = some (.slice BA bs.length bc) := (hE1).cell 4
  have v5 : w1.cell? ⟨w.heap.size, 5, none⟩ = some (.int .i64 0) := (hE1).cell 5
  have v6 : w1.cell? ⟨w.heap.size, 6, none⟩ = some (.int .i64 0) := (hE1).cell 6
  have v7 : w1.cell? ⟨w.heap.size, 7, none⟩ = some (.int .i64 0) := (hE1).cell 7
  have v8 : w1.cell? ⟨w.heap.size, 8, none⟩ = some (.int .i64 0) := (hE1).cell 8
  have v9 : w1.cell? ⟨w.heap.size, 9, none⟩ = some (.string ByteArray.empty) := (hE1).cell 9
  have v10 : w1.cell? ⟨w.heap.size, 10, none⟩ = some (.string ByteArray.empty) := (hE1).cell 10
  have v11 : w1.cell? ⟨w.heap.size, 11, none⟩ = some (.string ByteArray.empty) := (hE1).cell 11
  have v12 : w1.cell? ⟨w.heap.size, 12, none⟩ = some (.slice SA sn sc) := (hE1).cell 12
  have HAA := Lib.hid ha
  clear ha hk hP hx hxw hfm hd
  clear hw0 hw1 hb0 hb1 hE hE1 hX hb01 hp1 h hc hf
  go_enter Try.func19, Try.ntmps19
  go_upto_region 1 with fail
  rw [← HW0.out]
  go_upto_region 2 with fail
  rw [← HW1.out]
  clear x1 x2
  go_upto_region 15 with fail
  go_quiet (fail)
  have HT2 := Lib.hid (HT.out nq)
  have HB2 : Hid (Below w.heap.size w (w1.drewN nq)) := Lib.hid (below_drewN HB.out nq)
  have HEW : Hid (Blk (w1.drewN nq) w.heap.size 41 #[.int .i64 15, .int .i64 a, .int .i64 b, .int .i64 n, .slice BA bs.length bc, .int .i64 0, .int .i64 0, .int .i64 0, .int .i64 0, .string ByteArray.empty, .string ByteArray.empty, .string ByteArray.empty, .slice SA sn sc]) := Lib.hid (HEV.out _ (below_drewN (Below.refl _ _) nq)).1
  clear c6 v0 v1 v2 v3 v4 v5 v6 v7 v8 v9 v10 v11 v12 k0
  generalize w1.drewN nq = w2 at *
  have v0 : w2.cell? ⟨w.heap.size, 0, none⟩ = some (.int .i64 15) := (HEW.out).cell 0
  have v1 : w2.cell? ⟨w.heap.size, 1, none⟩ = some (.int .i64 a) := (HEW.out).cell 1
  have v2 : w2.cell? ⟨w.heap.size, 2, none⟩ = some (.int .i64 b) := (HEW.out).cell 2
  have v3 : w2.cell? ⟨w.heap.size, 3, none⟩ = some (.int .i64 n) := (HEW.out).cell 3
  have v4 : w2.cell? ⟨w.heap.size, 4, none⟩ = some (.slice BA bs.length bc) := (HEW.out).cell 4
  have v5 : w2.cell? ⟨w.heap.size, 5, none⟩ = some (.int .i64 0) := (HEW.out).cell 5
  have v6 : w2.cell? ⟨w.heap.size, 6, none⟩ = some (.int .i64 0) := (HEW.out).cell 6
  have v7 : w2.cell? ⟨w.heap.size, 7, none⟩ = some (.int .i64 0) := (HEW.out).cell 7
  have v8 : w2.cell? ⟨w.heap.size, 8, none⟩ = some (.int .i64 0) := (HEW.out).cell 8
  have v9 : w2.cell? ⟨w.heap.size, 9, none⟩ = some (.string ByteArray.empty) := (HEW.out).cell 9
  have v10 : w2.cell? ⟨w.heap.size, 10, none⟩ = some (.string ByteArray.empty) := (HEW.out).cell 10
  have v11 : w2.cell? ⟨w.heap.size, 11, none⟩ = some (.string ByteArray.empty) := (HEW.out).cell 11
  have v12 : w2.cell? ⟨w.heap.size, 12, none⟩ = some (.slice SA sn sc) := (HEW.out).cell 12

  go_wp2_with fail
  refine HT2.out.mono ?_
  intro e3 w3 h3
  obtain rfl := h3.1
  have HS := Lib.hid ((StepP.behind (v' := .int .i64 0) HB2.out h3).mono (Nat.le_succ m))
  clear h3
  go_wp2
  go_ret
  exact HS.out
set_option maxRecDepth 100000 in
set_option maxHeartbeats 3200000 in
theorem Do_touch_16neg (hc : c.Ok) (h : PNx w F c D p m) (hf : Fine p m) (a b n : Int) (BA SA : Option Addr) (bc sn sc : Nat) (bs : List UInt8) (_sides : List Int) {k : Nat} {f : Flt} (hk : p.way[k]? = some f) (ha : a = (k : Int)) (hno : n < 0) : Calls Try.prog 19 #[.pointer (some ⟨D, 0, none⟩), .agg #[.int .i64 16, .int .i64 a, .int .i64 b, .int .i64 n, .slice BA bs.length bc, .int .i64 0, .int .i64 0, .int .i64 0, .int .i64 0, .string ByteArray.empty, .string ByteArray.empty, .string ByteArray.empty, .slice SA sn sc]] w (StepP w F c D (m + 1) (.int .i64 1) (p)) := by
  have hb0 := one_box' w (.cells #[.int .i64 16, .int .i64 a, .int .i64 b, .int .i64 n, .slice BA bs.length bc, .int .i64 0, .int .i64 0, .int .i64 0, .int .i64 0, .string ByteArray.empty, .string ByteArray.empty, .string ByteArray.empty, .slice SA sn sc] 41)
  have hE := Blk.new w 41 #[.int .i64 16, .int .i64 a, .int .i64 b, .int .i64 n, .slice BA bs.length bc, .int .i64 0, .int .i64 0, .int .i64 0, .int .i64 0, .string ByteArray.empty, .string ByteArray.empty, .string ByteArray.empty, .slice SA sn sc]
  obtain ⟨w0, hw0⟩ : ∃ w0, w0 = w.alloc (.cells #[.int .i64 16, .int .i64 a, .int .i64 b, .int .i64 n, .slice BA bs.length bc, .int .i64 0, .int .i64 0, .int .i64 0, .int .i64 0, .string ByteArray.empty, .string ByteArray.empty, .string ByteArray.empty, .slice SA sn sc] 41) := ⟨_, rfl⟩
  rw [← hw0] at hb0 hE
  have HW0 := Lib.hid hw0
  have hs0 := hb0.size
  have x1 : w0.cell? ⟨w.heap.size, 1, none⟩ = some (.int .i64 a) := hE.cell 1
  have x2 : w0.cell? ⟨w.heap.size, 2, none⟩ = some (.int .i64 b) := hE.cell 2
  have hb1 := one_box' w0 (.cells #[.int .i64 a, .int .i64 b] 89)
  have hX := Blk.new w0 89 #[.int .i64 a, .int .i64 b]
  have hE1 := hE.over hb1
  obtain ⟨w1, hw1⟩ : ∃ w1, w1 = w0.alloc (.cells #[.int .i64 a, .int .i64 b] 89) := ⟨_, rfl⟩
  rw [← hw1] at hb1 hX hE1
  have HW1 := Lib.hid hw1
  have hb01 : Below w.heap.size w w1 := hb0.trans (hb1.mono hs0)
  have hp1 := h.below hb01
  have HB := Lib.hid hb01
  have HP := Lib.hid h
  have HC := Lib.hid hc
  have HFI := Lib.hid hf
  have k0 : w1.cell? ⟨w.heap.size, 0, none⟩ = some (.int .i64 16) := hE1.cell 0
  have HEV : Hid (∀ W, Below w1.heap.size w1 W → Blk W w.heap.size 41 #[.int .i64 16, .int .i64 a, .int .i64 b, .int .i64 n, .slice BA bs.length bc, .int .i64 0, .int .i64 0, .int .i64 0, .int .i64 0, .string ByteArray.empty, .string ByteArray.empty, .string ByteArray.empty, .slice SA sn sc] ∧ Blk W w0.heap.size 89 #[.int .i64 a, .int .i64 b]) := Lib.hid fun W hW => ⟨hE1.over hW, hX.over hW⟩
  have hfm : f ∈ p.way := List.mem_of_getElem? hk
  obtain ⟨P, S, L, g, cap, X, y, hP, hkX, hXl, hXc, hx, hxw⟩ := hp1.flt0 hk hf.way
  have HT := Lib.hid fun (dd : Nat) => touch_16neg (hp1.below (below_drewN (Below.refl _ _) dd)) hk hf.way a b n BA SA bs.length bc sn sc hno
  have c6 : w1.cell? ⟨D, 6, none⟩ = some (.slice (some ⟨g, 0, none⟩) X.length cap) := hP.blk.cell 6
  rw [← ha] at HT
  have e0 : decide (a < 0) = false := by simp; omega
  have h0 : ¬ a < 0 := by omega
  have h1 : ¬ (X.length : Int) ≤ a := by omega
  have e1 : decide (a ≥ (X.length : Int)) = false := by simp; omega
  have v0 : w1.cell? ⟨w.heap.size, 0, none⟩ = some (.int .i64 16) := (hE1).cell 0
  have v1 : w1.cell? ⟨w.heap.size, 1, none⟩ = some (.int .i64 a) := (hE1).cell 1
  have v2 : w1.cell? ⟨w.heap.size, 2, none⟩ = some (.int .i64 b) := (hE1).cell 2
  have v3 : w1.cell? ⟨w.heap.size, 3, none⟩ = some (.int .i64 n) := (hE1).cell 3
  have v4 : w1.cell? ⟨w.heap.size, 4, none⟩ = some (.slice BA bs.length bc) := (hE1).cell 4
  have v5 : w1.cell? ⟨w.heap.size, 5, none⟩ = some (.int .i64 0) := (hE1).cell 5
  have v6 : w1.cell? ⟨w.heap.size, 6, none⟩ = some (.int .i64 0) := (hE1).cell 6
  have v7 : w1.cell? ⟨w.heap.size, 7, none⟩ = some (.int .i64 0) := (hE1).cell 7
  have v8 : w1.cell? ⟨w.heap.size, 8, none⟩ = some (.int .i64 0) := (hE1).cell 8
  have v9 : w1.cell? ⟨w.heap.size, 9, none⟩ = some (.string ByteArray.empty) := (hE1).cell 9
  have v10 : w1.cell? ⟨w.heap.size, 10, none⟩ = some (.string ByteArray.empty) := (hE1).cell 10
  have v11 : w1.cell? ⟨w.heap.size, 11, none⟩ = some (.string ByteArray.empty) := (hE1).cell 11
  have v12 : w1.cell? ⟨w.heap.size, 12, none⟩ = some (.slice SA sn sc) := (hE1).cell 12
  have HAA := Lib.hid ha
  clear ha hk hP hx hxw hfm
  clear hw0 hw1 hb0 hb1 hE hE1 hX hb01 hp1 h hc hf
  go_enter Try.func19, Try.ntmps19
  go_upto_region 1 with fail
  rw [← HW0.out]
  go_upto_region 2 with fail
  rw [← HW1.out]
  clear x1 x2
  go_upto_region 15 with fail
  go_quiet (fail)
  have HT2 := Lib.hid (HT.out nq)
  have HB2 : Hid (Below w.heap.size w (w1.drewN nq)) := Lib.hid (below_drewN HB.out nq)
  have HEW : Hid (Blk (w1.drewN nq) w.heap.size 41 #[.int .i64 16, .int .i64 a, .int .i64 b, .int .i64 n, .slice BA bs.length bc, .int .i64 0, .int .i64 0, .int .i64 0, .int .i64 0, .string ByteArray.empty, .string ByteArray.empty, .string ByteArray.empty, .slice SA sn sc]) := Lib.hid (HEV.out _ (below_drewN (Below.refl _ _) nq)).1
  clear c6 v0 v1 v2 v3 v4 v5 v6 v7 v8 v9 v10 v11 v12 k0
  generalize w1.drewN nq = w2 at *
  have v0 : w2.cell? ⟨w.heap.size, 0, none⟩ = some (.int .i64 16) := (HEW.out).cell 0
  have v1 : w2.cell? ⟨w.heap.size, 1, none⟩ = some (.int .i64 a) := (HEW.out).cell 1
  have v2 : w2.cell? ⟨w.heap.size, 2, none⟩ = some (.int .i64 b) := (HEW.out).cell 2
  have v3 : w2.cell? ⟨w.heap.size, 3, none⟩ = some (.int .i64 n) := (HEW.out).cell 3
  have v4 : w2.cell? ⟨w.heap.size, 4, none⟩ = some (.slice BA bs.length bc) := (HEW.out).cell 4
  have v5 : w2.cell? ⟨w.heap.size, 5, none⟩ = some (.int .i64 0) := (HEW.out).cell 5
  have v6 : w2.cell? ⟨w.heap.size, 6, none⟩ = some (.int .i64 0) := (HEW.out).cell 6
  have v7 : w2.cell? ⟨w.heap.size, 7, none⟩ = some (.int .i64 0) := (HEW.out).cell 7
  have v8 : w2.cell? ⟨w.heap.size, 8, none⟩ = some (.int .i64 0) := (HEW.out).cell 8
  have v9 : w2.cell? ⟨w.heap.size, 9, none⟩ = some (.string ByteArray.empty) := (HEW.out).cell 9
  have v10 : w2.cell? ⟨w.heap.size, 10, none⟩ = some (.string ByteArray.empty) := (HEW.out).cell 10
  have v11 : w2.cell? ⟨w.heap.size, 11, none⟩ = some (.string ByteArray.empty) := (HEW.out).cell 11
  have v12 : w2.cell? ⟨w.heap.size, 12, none⟩ = some (.slice SA sn sc) := (HEW.out).cell 12

  go_wp2_with fail
  refine HT2.out.mono ?_
  intro e3 w3 h3
  obtain rfl := h3.1
  have HS := Lib.hid ((StepP.behind (v' := .int .i64 1) HB2.out h3).mono (Nat.le_succ m))
  clear h3
  go_wp2
  go_ret
  exact HS.out
set_option maxRecDepth 100000 in
set_option maxHeartbeats 3200000 in
theorem Do_touch_16big (hc : c.Ok) (h : PNx w F c D p m) (hf : Fine p m) (a b n : Int) (BA SA : Option Addr) (bc sn sc : Nat) (bs : List UInt8) (_sides : List Int) {k : Nat} {f : Flt} (hk : p.way[k]? = some f) (ha : a = (k : Int)) (r : Nat) (hr : n = (r : Int)) (hr2 : r ≤ 9223372036854775807) (hno : f.bs.length ≤ r / 8) : Calls Try.prog 19 #[.pointer (some ⟨D, 0, none⟩), .agg #[.int .i64 16, .int .i64 a, .int .i64 b, .int .i64 n, .slice BA bs.length bc, .int .i64 0, .int .i64 0, .int .i64 0, .int .i64 0, .string ByteArray.empty, .string ByteArray.empty, .string ByteArray.empty, .slice SA sn sc]] w (StepP w F c D (m + 1) (.int .i64 1) (p)) := by
  have hb0 := one_box' w (.cells #[.int .i64 16, .int .i64 a, .int .i64 b, .int .i64 n, .slice BA bs.length bc, .int .i64 0, .int .i64 0, .int .i64 0, .int .i64 0, .string ByteArray.empty, .string ByteArray.empty, .string ByteArray.empty, .slice SA sn sc] 41)
  have hE := Blk.new w 41 #[.int .i64 16, .int .i64 a, .int .i64 b, .int .i64 n, .slice BA bs.length bc, .int .i64 0, .int .i64 0, .int .i64 0, .int .i64 0, .string ByteArray.empty, .string ByteArray.empty, .string ByteArray.empty, .slice SA sn sc]
  obtain ⟨w0, hw0⟩ : ∃ w0, w0 = w.alloc (.cells #[.int .i64 16, .int .i64 a, .int .i64 b, .int .i64 n, .slice BA bs.length bc, .int .i64 0, .int .i64 0, .int .i64 0, .int .i64 0, .string ByteArray.empty, .string ByteArray.empty, .string ByteArray.empty, .slice SA sn sc] 41) := ⟨_, rfl⟩
  rw [← hw0] at hb0 hE
  have HW0 := Lib.hid hw0
  have hs0 := hb0.size
  have x1 : w0.cell? ⟨w.heap.size, 1, none⟩ = some (.int .i64 a) := hE.cell 1
  have x2 : w0.cell? ⟨w.heap.size, 2, none⟩ = some (.int .i64 b) := hE.cell 2
  have hb1 := one_box' w0 (.cells #[.int .i64 a, .int .i64 b] 89)
  have hX := Blk.new w0 89 #[.int .i64 a, .int .i64 b]
  have hE1 := hE.over hb1
  obtain ⟨w1, hw1⟩ : ∃ w1, w1 = w0.alloc (.cells #[.int .i64 a, .int .i64 b] 89) := ⟨_, rfl⟩
  rw [← hw1] at hb1 hX hE1
  have HW1 := Lib.hid hw1
  have hb01 : Below w.heap.size w w1 := hb0.trans (hb1.mono hs0)
  have hp1 := h.below hb01
  have HB := Lib.hid hb01
  have HP := Lib.hid h
  have HC := Lib.hid hc
  have HFI := Lib.hid hf
  have k0 : w1.cell? ⟨w.heap.size, 0, none⟩ = some (.int .i64 16) := hE1.cell 0
  have HEV : Hid (∀ W, Below w1.heap.size w1 W → Blk W w.heap.size 41 #[.int .i64 16, .int .i64 a, .int .i64 b, .int .i64 n, .slice BA bs.length bc, .int .i64 0, .int .i64 0, .int .i64 0, .int .i64 0, .string ByteArray.empty, .string ByteArray.empty, .string ByteArray.empty, .slice SA sn sc] ∧ Blk W w0.heap.size 89 #[.int .i64 a, .int .i64 b]) := Lib.hid fun W hW => ⟨hE1.over hW, hX.over hW⟩
  have hfm : f ∈ p.way := List.mem_of_getElem? hk
  obtain ⟨P, S, L, g, cap, X, y, hP, hkX, hXl, hXc, hx, hxw⟩ := hp1.flt0 hk hf.way
  have HT := Lib.hid fun (dd : Nat) => touch_16big (hp1.below (below_drewN (Below.refl _ _) dd)) hk hf.way a b n BA SA bs.length bc sn sc r hr hr2 hno
  have c6 : w1.cell? ⟨D, 6, none⟩ = some (.slice (some ⟨g, 0, none⟩) X.length cap) := hP.blk.cell 6
  rw [← ha] at HT
  have e0 : decide (a < 0) = false := by simp; omega
  have h0 : ¬ a < 0 := by omega
  have h1 : ¬ (X.length : Int) ≤ a := by omega
  have e1 : decide (a ≥ (X.length : Int)) = false := by simp; omega
  have v0 : w1.cell? ⟨w.heap.size, 0, none⟩ = some (.int .i64 16) := (hE1).cell 0
  have v1 : w1.cell? ⟨w.heap.size, 1, none⟩ = some (.int .i64 a) := (hE1).cell 1
  have v2 : w1.cell? ⟨w.heap.size, 2, none⟩ = some (.int .i64 b) := (hE1).cell 2
  have v3 : w1.cell? ⟨w.heap.size, 3, none⟩ = some (.int .i64 n) := (hE1).cell 3
  have v4 : w1.cell? ⟨w.heap.size, 4, none⟩ = some (.slice BA bs.length bc) := (hE1).cell 4
  have v5 : w1.cell? ⟨w.heap.size, 5, none⟩ = some (.int .i64 0) := (hE1).cell 5
  have v6 : w1.cell? ⟨w.heap.size, 6, none⟩ = some (.int .i64 0) := (hE1).cell 6
  have v7 : w1.cell? ⟨w.heap.size, 7, none⟩ = some (.int .i64 0) := (hE1).cell 7
  have v8 : w1.cell? ⟨w.heap.size, 8, none⟩ = some (.int .i64 0) := (hE1).cell 8
  have v9 : w1.cell? ⟨w.heap.size, 9, none⟩ = some (.string ByteArray.empty) := (hE1).cell 9
  have v10 : w1.cell? ⟨w.heap.size, 10, none⟩ = some (.string ByteArray.empty) := (hE1).cell 10
  have v11 : w1.cell? ⟨w.heap.size, 11, none⟩ = some (.string ByteArray.empty) := (hE1).cell 11
  have v12 : w1.cell? ⟨w.heap.size, 12, none⟩ = some (.slice SA sn sc) := (hE1).cell 12
  have HAA := Lib.hid ha
  clear ha hk hP hx hxw hfm hr
  clear hw0 hw1 hb0 hb1 hE hE1 hX hb01 hp1 h hc hf
  go_enter Try.func19, Try.ntmps19
  go_upto_region 1 with fail
  rw [← HW0.out]
  go_upto_region 2 with fail
  rw [← HW1.out]
  clear x1 x2
  go_upto_region 15 with fail
  go_quiet (fail)
  have HT2 := Lib.hid (HT.out nq)
  have HB2 : Hid (Below w.heap.size w (w1.drewN nq)) := Lib.hid (below_drewN HB.out nq)
  have HEW : Hid (Blk (w1.drewN nq) w.heap.size 41 #[.int .i64 16, .int .i64 a, .int .i64 b, .int .i64 n, .slice BA bs.length bc, .int .i64 0, .int .i64 0, .int .i64 0, .int .i64 0, .string ByteArray.empty, .string ByteArray.empty, .string ByteArray.empty, .slice SA sn sc]) := Lib.hid (HEV.out _ (below_drewN (Below.refl _ _) nq)).1
  clear c6 v0 v1 v2 v3 v4 v5 v6 v7 v8 v9 v10 v11 v12 k0
  generalize w1.drewN nq = w2 at *
  have v0 : w2.cell? ⟨w.heap.size, 0, none⟩ = some (.int .i64 16) := (HEW.out).cell 0
  have v1 : w2.cell? ⟨w.heap.size, 1, none⟩ = some (.int .i64 a) := (HEW.out).cell 1
  have v2 : w2.cell? ⟨w.heap.size, 2, none⟩ = some (.int .i64 b) := (HEW.out).cell 2
  have v3 : w2.cell? ⟨w.heap.size, 3, none⟩ = some (.int .i64 n) := (HEW.out).cell 3
  have v4 : w2.cell? ⟨w.heap.size, 4, none⟩ = some (.slice BA bs.length bc) := (HEW.out).cell 4
  have v5 : w2.cell? ⟨w.heap.size, 5, none⟩ = some (.int .i64 0) := (HEW.out).cell 5
  have v6 : w2.cell? ⟨w.heap.size, 6, none⟩ = some (.int .i64 0) := (HEW.out).cell 6
  have v7 : w2.cell? ⟨w.heap.size, 7, none⟩ = some (.int .i64 0) := (HEW.out).cell 7
  have v8 : w2.cell? ⟨w.heap.size, 8, none⟩ = some (.int .i64 0) := (HEW.out).cell 8
  have v9 : w2.cell? ⟨w.heap.size, 9, none⟩ = some (.string ByteArray.empty) := (HEW.out).cell 9
  have v10 : w2.cell? ⟨w.heap.size, 10, none⟩ = some (.string ByteArray.empty) := (HEW.out).cell 10
  have v11 : w2.cell? ⟨w.heap.size, 11, none⟩ = some (.string ByteArray.empty) := (HEW.out).cell 11
  have v12 : w2.cell? ⟨w.heap.size, 12, none⟩ = some (.slice SA sn sc) := (HEW.out).cell 12

  go_wp2_with fail
  refine HT2.out.mono ?_
  intro e3 w3 h3
  obtain rfl := h3.1
  have HS := Lib.hid ((StepP.behind (v' := .int .i64 1) HB2.out h3).mono (Nat.le_succ m))
  clear h3
  go_wp2
  go_ret
  exact HS.out
set_option maxRecDepth 100000 in
set_option maxHeartbeats 3200000 in
theorem Do_touch_16yes (hc : c.Ok) (h : PNx w F c D p m) (hf : Fine p m) (a b n : Int) (BA SA : Option Addr) (bc sn sc : Nat) (bs : List UInt8) (_sides : List Int) {k : Nat} {f : Flt} (hk : p.way[k]? = some f) (ha : a = (k : Int)) (r : Nat) (hr : n = (r : Int)) (hr2 : r ≤ 9223372036854775807) (hno : r / 8 < f.bs.length) : Calls Try.prog 19 #[.pointer (some ⟨D, 0, none⟩), .agg #[.int .i64 16, .int .i64 a, .int .i64 b, .int .i64 n, .slice BA bs.length bc, .int .i64 0, .int .i64 0, .int .i64 0, .int .i64 0, .string ByteArray.empty, .string ByteArray.empty, .string ByteArray.empty, .slice SA sn sc]] w (StepP w F c D (m + 1) (.int .i64 0) ({ p with way := p.way.set k (flipF f r) })) := by
  have hb0 := one_box' w (.cells #[.int .i64 16, .int .i64 a, .int .i64 b, .int .i64 n, .slice BA bs.length bc, .int .i64 0, .int .i64 0, .int .i64 0, .int .i64 0, .string ByteArray.empty, .string ByteArray.empty, .string ByteArray.empty, .slice SA sn sc] 41)
  have hE := Blk.new w 41 #[.int .i64 16, .int .i64 a, .int .i64 b, .int .i64 n, .slice BA bs.length bc, .int .i64 0, .int .i64 0, .int .i64 0, .int .i64 0, .string ByteArray.empty, .string ByteArray.empty, .string ByteArray.empty, .slice SA sn sc]
  obtain ⟨w0, hw0⟩ : ∃ w0, w0 = w.alloc (.cells #[.int .i64 16, .int .i64 a, .int .i64 b, .int .i64 n, .slice BA bs.length bc, .int .i64 0, .int .i64 0, .int .i64 0, .int .i64 0, .string ByteArray.empty, .string ByteArray.empty, .string ByteArray.empty, .slice SA sn sc] 41) := ⟨_, rfl⟩
  rw [← hw0] at hb0 hE
  have HW0 := Lib.hid hw0
  have hs0 := hb0.size
  have x1 : w0.cell? ⟨w.heap.size, 1, none⟩ = some (.int .i64 a) := hE.cell 1
  have x2 : w0.cell? ⟨w.heap.size, 2, none⟩ = some (.int .i64 b) := hE.cell 2
  have hb1 := one_box' w0 (.cells #[.int .i64 a, .int .i64 b] 89)
  have hX := Blk.new w0 89 #[.int .i64 a, .int .i64 b]
  have hE1 := hE.over hb1
  obtain ⟨w1, hw1⟩ : ∃ w1, w1 = w0.alloc (.cells #[.int .i64 a, .int .i64 b] 89) := ⟨_, rfl⟩
  rw [← hw1] at hb1 hX hE1
  have HW1 := Lib.hid hw1
  have hb01 : Below w.heap.size w w1 := hb0.trans (hb1.mono hs0)
  have hp1 := h.below hb01
  have HB := Lib.hid hb01
  have HP := Lib.hid h
  have HC := Lib.hid hc
  have HFI := Lib.hid hf
  have k0 : w1.cell? ⟨w.heap.size, 0, none⟩ = some (.int .i64 16) := hE1.cell 0
  have HEV : Hid (∀ W, Below w1.heap.size w1 W → Blk W w.heap.size 41 #[.int .i64 16, .int .i64 a, .int .i64 b, .int .i64 n, .slice BA bs.length bc, .int .i64 0, .int .i64 0, .int .i64 0, .int .i64 0, .string ByteArray.empty, .string ByteArray.empty, .string ByteArray.empty, .slice SA sn sc] ∧ Blk W w0.heap.size 89 #[.int .i64 a, .int .i64 b]) := Lib.hid fun W hW => ⟨hE1.over hW, hX.over hW⟩
  have hfm : f ∈ p.way := List.mem_of_getElem? hk
  obtain ⟨P, S, L, g, cap, X, y, hP, hkX, hXl, hXc, hx, hxw⟩ := hp1.flt0 hk hf.way
  have HT := Lib.hid fun (dd : Nat) => touch_16yes (hp1.below (below_drewN (Below.refl _ _) dd)) hk hf.way a b n BA SA bs.length bc sn sc r hr hr2 hno
  have c6 : w1.cell? ⟨D, 6, none⟩ = some (.slice (some ⟨g, 0, none⟩) X.length cap) := hP.blk.cell 6
  rw [← ha] at HT
  have e0 : decide (a < 0) = false := by simp; omega
  have h0 : ¬ a < 0 := by omega
  have h1 : ¬ (X.length : Int) ≤ a := by omega
  have e1 : decide (a ≥ (X.length : Int)) = false := by simp; omega
  have v0 : w1.cell? ⟨w.heap.size, 0, none⟩ = some (.int .i64 16) := (hE1).cell 0
  have v1 : w1.cell? ⟨w.heap.size, 1, none⟩ = some (.int .i64 a) := (hE1).cell 1
  have v2 : w1.cell? ⟨w.heap.size, 2, none⟩ = some (.int .i64 b) := (hE1).cell 2
  have v3 : w1.cell? ⟨w.heap.size, 3, none⟩ = some (.int .i64 n) := (hE1).cell 3
  have v4 : w1.cell? ⟨w.heap.size, 4, none⟩ = some (.slice BA bs.length bc) := (hE1).cell 4
  have v5 : w1.cell? ⟨w.heap.size, 5, none⟩ = some (.int .i64 0) := (hE1).cell 5
  have v6 : w1.cell? ⟨w.heap.size, 6, none⟩ = some (.int .i64 0) := (hE1).cell 6
  have v7 : w1.cell? ⟨w.heap.size, 7, none⟩ = some (.int .i64 0) := (hE1).cell 7
  have v8 : w1.cell? ⟨w.heap.size, 8, none⟩ = some (.int .i64 0) := (hE1).cell 8
  have v9 : w1.cell? ⟨w.heap.size, 9, none⟩ = some (.string ByteArray.empty) := (hE1).cell 9
  have v10 : w1.cell? ⟨w.heap.size, 10, none⟩ = some (.string ByteArray.empty) := (hE1).cell 10
  have v11 : w1.cell? ⟨w.heap.size, 11, none⟩ = some (.string ByteArray.empty) := (hE1).cell 11
  have v12 : w1.cell? ⟨w.heap.size, 12, none⟩ = some (.slice SA sn sc) := (hE1).cell 12
  have HAA := Lib.hid ha
  clear ha hk hP hx hxw hfm hr
  clear hw0 hw1 hb0 hb1 hE hE1 hX hb01 hp1 h hc hf
  go_enter Try.func19, Try.ntmps19
  go_upto_region 1 with fail
  rw [← HW0.out]
  go_upto_region 2 with fail
  rw [← HW1.out]
  clear x1 x2
  go_upto_region 15 with fail
  go_quiet (fail)
  have HT2 := Lib.hid (HT.out nq)
  have HB2 : Hid (Below w.heap.size w (w1.drewN nq)) := Lib.hid (below_drewN HB.out nq)
  have HEW : Hid (Blk (w1.drewN nq) w.heap.size 41 #[.int .i64 16, .int .i64 a, .int .i64 b, .int .i64 n, .slice BA bs.length bc, .int .i64 0, .int .i64 0, .int .i64 0, .int .i64 0, .string ByteArray.empty, .string ByteArray.empty, .string ByteArray.empty, .slice SA sn sc]) := Lib.hid (HEV.out _ (below_drewN (Below.refl _ _) nq)).1
  clear c6 v0 v1 v2 v3 v4 v5 v6 v7 v8 v9 v10 v11 v12 k0
  generalize w1.drewN nq = w2 at *
  have v0 : w2.cell? ⟨w.heap.size, 0, none⟩ = some (.int .i64 16) := (HEW.out).cell 0
  have v1 : w2.cell? ⟨w.heap.size, 1, none⟩ = some (.int .i64 a) := (HEW.out).cell 1
  have v2 : w2.cell? ⟨w.heap.size, 2, none⟩ = some (.int .i64 b) := (HEW.out).cell 2
  have v3 : w2.cell? ⟨w.heap.size, 3, none⟩ = some (.int .i64 n) := (HEW.out).cell 3
  have v4 : w2.cell? ⟨w.heap.size, 4, none⟩ = some (.slice BA bs.length bc) := (HEW.out).cell 4
  have v5 : w2.cell? ⟨w.heap.size, 5, none⟩ = some (.int .i64 0) := (HEW.out).cell 5
  have v6 : w2.cell? ⟨w.heap.size, 6, none⟩ = some (.int .i64 0) := (HEW.out).cell 6
  have v7 : w2.cell? ⟨w.heap.size, 7, none⟩ = some (.int .i64 0) := (HEW.out).cell 7
  have v8 : w2.cell? ⟨w.heap.size, 8, none⟩ = some (.int .i64 0) := (HEW.out).cell 8
  have v9 : w2.cell? ⟨w.heap.size, 9, none⟩ = some (.string ByteArray.empty) := (HEW.out).cell 9
  have v10 : w2.cell? ⟨w.heap.size, 10, none⟩ = some (.string ByteArray.empty) := (HEW.out).cell 10
  have v11 : w2.cell? ⟨w.heap.size, 11, none⟩ = some (.string ByteArray.empty) := (HEW.out).cell 11
  have v12 : w2.cell? ⟨w.heap.size, 12, none⟩ = some (.slice SA sn sc) := (HEW.out).cell 12

  go_wp2_with fail
  refine HT2.out.mono ?_
  intro e3 w3 h3
  obtain rfl := h3.1
  have HS := Lib.hid ((StepP.behind (v' := .int .i64 0) HB2.out h3).mono (Nat.le_succ m))
  clear h3
  go_wp2
  go_ret
  exact HS.out
set_option maxRecDepth 100000 in
set_option maxHeartbeats 3200000 in
theorem Do_else (hc : c.Ok) (h : PNx w F c D p m) (hf : Fine p m) (kd a b n : Int) (BA SA : Option Addr) (bc sn sc : Nat) (bs : List UInt8) (_sides : List Int) (hk : kd < 8 ∨ kd = 14 ∨ 17 < kd) : Calls Try.prog 19 #[.pointer (some ⟨D, 0, none⟩), .agg #[.int .i64 kd, .int .i64 a, .int .i64 b, .int .i64 n, .slice BA bs.length bc, .int .i64 0, .int .i64 0, .int .i64 0, .int .i64 0, .string ByteArray.empty, .string ByteArray.empty, .string ByteArray.empty, .slice SA sn sc]] w (StepP w F c D (m + 1) (.int .i64 1) p) := by
  have hb0 := one_box' w (.cells #[.int .i64 kd, .int .i64 a, .int .i64 b, .int .i64 n, .slice BA bs.length bc, .int .i64 0, .int .i64 0, .int .i64 0, .int .i64 0, .string ByteArray.empty, .string ByteArray.empty, .string ByteArray.empty, .slice SA sn sc] 41)
  have hE := Blk.new w 41 #[.int .i64 kd, .int .i64 a, .int .i64 b, .int .i64 n, .slice BA bs.length bc, .int .i64 0, .int .i64 0, .int .i64 0, .int .i64 0, .string ByteArray.empty, .string ByteArray.empty, .string ByteArray.empty, .slice SA sn sc]
  obtain ⟨w0, hw0⟩ : ∃ w0, w0 = w.alloc (.cells #[.int .i64 kd, .int .i64 a, .int .i64 b, .int .i64 n, .slice BA bs.length bc, .int .i64 0, .int .i64 0, .int .i64 0, .int .i64 0, .string ByteArray.empty, .string ByteArray.empty, .string ByteArray.empty, .slice SA sn sc] 41) := ⟨_, rfl⟩
  rw [← hw0] at hb0 hE
  have HW0 := Lib.hid hw0
  have hs0 := hb0.size
  have x1 : w0.cell? ⟨w.heap.size, 1, none⟩ = some (.int .i64 a) := hE.cell 1
  have x2 : w0.cell? ⟨w.heap.size, 2, none⟩ = some (.int .i64 b) := hE.cell 2
  have hb1 := one_box' w0 (.cells #[.int .i64 a, .int .i64 b] 89)
  have hX := Blk.new w0 89 #[.int .i64 a, .int .i64 b]
  have hE1 := hE.over hb1
  obtain ⟨w1, hw1⟩ : ∃ w1, w1 = w0.alloc (.cells #[.int .i64 a, .int .i64 b] 89) := ⟨_, rfl⟩
  rw [← hw1] at hb1 hX hE1
  have HW1 := Lib.hid hw1
  have hb01 : Below w.heap.size w w1 := hb0.trans (hb1.mono hs0)
  have hp1 := h.below hb01
  have HB := Lib.hid hb01
  have HP := Lib.hid h
  have HC := Lib.hid hc
  have HFI := Lib.hid hf
  have k0 : w1.cell? ⟨w.heap.size, 0, none⟩ = some (.int .i64 kd) := hE1.cell 0
  have HEV : Hid (∀ W, Below w1.heap.size w1 W → Blk W w.heap.size 41 #[.int .i64 kd, .int .i64 a, .int .i64 b, .int .i64 n, .slice BA bs.length bc, .int .i64 0, .int .i64 0, .int .i64 0, .int .i64 0, .string ByteArray.empty, .string ByteArray.empty, .string ByteArray.empty, .slice SA sn sc] ∧ Blk W w0.heap.size 89 #[.int .i64 a, .int .i64 b]) := Lib.hid fun W hW => ⟨hE1.over hW, hX.over hW⟩
  have HS : Hid (StepP w F c D (m + 1) (.int .i64 1) p (.returned (.int .i64 1)) w1) := Lib.hid (StepP.same (h.mono (Nat.le_succ m)) hb01)
  have e8 : (kd == 8) = false := by simp; omega
  have e9 : (kd == 9) = false := by simp; omega
  have e10 : (kd == 10) = false := by simp; omega
  have e11 : (kd == 11) = false := by simp; omega
  have e12 : (kd == 12) = false := by simp; omega
  have e13 : (kd == 13) = false := by simp; omega
  have e15 : (kd == 15) = false := by simp; omega
  have e16 : (kd == 16) = false := by simp; omega
  have e17 : (kd == 17) = false := by simp; omega
  clear hk
  clear hw0 hw1 hb0 hb1 hE hE1 hX hb01 hp1 h hc hf
  go_enter Try.func19, Try.ntmps19
  go_upto_region 1 with fail
  rw [← HW0.out]
  go_upto_region 2 with fail
  rw [← HW1.out]
  clear x1 x2
  go_wp2
  go_ret
  exact HS.out
end Go.Proofs.Ytgfhmfhhobhojaa
