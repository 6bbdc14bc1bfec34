/-
  The program's network: Do, a packet injected.
-/
import Derived.Test.YtgfhmfhhobhojaaEDo
namespace Go.Proofs.Ytgfhmfhhobhojaa
open Go.ChangeShapes Go.WideShapes Go.ChangeAt Go.RowKit
variable {w : World} {F : Nat → Prop} {c : ECfg} {D : Nat} {p : PV} {m : Nat}
set_option maxRecDepth 100000 in
set_option maxHeartbeats 3200000 in
theorem Do_inj_none (hc : c.Ok) (h : PNx w F c D p m) (hf : Fine p m) (a b n : Int) (BA SA : Option Addr) (bc sn sc : Nat) (bs : List UInt8) (_sides : List Int) (hJ : joinB c a b = false) : Calls Try.prog 19 #[.pointer (some ⟨D, 0, none⟩), .agg #[.int .i64 17, .int .i64 a, .int .i64 b, .int .i64 n, .slice BA bs.length bc, .int .i64 0, .int .i64 0, .int .i64 0, .int .i64 0, .string ByteArray.empty, .string ByteArray.empty, .string ByteArray.empty, .slice SA sn sc]] w (StepP w F c D (m + 1) (.int .i64 1) p) := by
  have hb0 := one_box' w (.cells #[.int .i64 17, .int .i64 a, .int .i64 b, .int .i64 n, .slice BA bs.length bc, .int .i64 0, .int .i64 0, .int .i64 0, .int .i64 0, .string ByteArray.empty, .string ByteArray.empty, .string ByteArray.empty, .slice SA sn sc] 41)
  have hE := Blk.new w 41 #[.int .i64 17, .int .i64 a, .int .i64 b, .int .i64 n, .slice BA bs.length bc, .int .i64 0, .int .i64 0, .int .i64 0, .int .i64 0, .string ByteArray.empty, .string ByteArray.empty, .string ByteArray.empty, .slice SA sn sc]
  obtain ⟨w0, hw0⟩ : ∃ w0, w0 = w.alloc (.cells #[.int .i64 17, .int .i64 a, .int .i64 b, .int .i64 n, .slice BA bs.length bc, .int .i64 0, .int .i64 0, .int .i64 0, .int .i64 0, .string ByteArray.empty, .string ByteArray.empty, .string ByteArray.empty, .slice SA sn sc] 41) := ⟨_, rfl⟩
  rw [← hw0] at hb0 hE
  have HW0 := Lib.hid hw0
  have hs0 := hb0.size
  have x1 : w0.cell? ⟨w.heap.size, 1, none⟩ = some (.int .i64 a) := hE.cell 1
  have x2 : w0.cell? ⟨w.heap.size, 2, none⟩ = some (.int .i64 b) := hE.cell 2
  have hb1 := one_box' w0 (.cells #[.int .i64 a, .int .i64 b] 89)
  have hX := Blk.new w0 89 #[.int .i64 a, .int .i64 b]
  have hE1 := hE.over hb1
  obtain ⟨w1, hw1⟩ : ∃ w1, w1 = w0.alloc (.cells #[.int .i64 a, .int .i64 b] 89) := ⟨_, rfl⟩
  rw [← hw1] at hb1 hX hE1
  have HW1 := Lib.hid hw1
  have hb01 : Below w.heap.size w w1 := hb0.trans (hb1.mono hs0)
  have hp1 := h.below hb01
  have HB := Lib.hid hb01
  have HP := Lib.hid h
  have HC := Lib.hid hc
  have HFI := Lib.hid hf
  have k0 : w1.cell? ⟨w.heap.size, 0, none⟩ = some (.int .i64 17) := hE1.cell 0
  have HEV : Hid (∀ W, Below w1.heap.size w1 W → Blk W w.heap.size 41 #[.int .i64 17, .int .i64 a, .int .i64 b, .int .i64 n, .slice BA bs.length bc, .int .i64 0, .int .i64 0, .int .i64 0, .int .i64 0, .string ByteArray.empty, .string ByteArray.empty, .string ByteArray.empty, .slice SA sn sc] ∧ Blk W w0.heap.size 89 #[.int .i64 a, .int .i64 b]) := Lib.hid fun W hW => ⟨hE1.over hW, hX.over hW⟩
  have HJ := Lib.hid fun (W : World) (hW : Below w1.heap.size w1 W) => joins_is (hp1.below hW) hJ
  have y0 : w1.cell? ⟨w0.heap.size, 0, none⟩ = some (.int .i64 a) := hX.cell 0
  have y1 : w1.cell? ⟨w0.heap.size, 1, none⟩ = some (.int .i64 b) := hX.cell 1
  clear hJ
  clear hw0 hw1 hb0 hb1 hE hE1 hX hb01 hp1 h hc hf
  go_enter Try.func19, Try.ntmps19
  go_upto_region 1 with fail
  rw [← HW0.out]
  go_upto_region 2 with fail
  rw [← HW1.out]
  clear x1 x2
  go_wp2_with (go_at_call 41; refine (HJ.out w1 (Below.refl _ _)).mono ?_; rintro _ w2 ⟨rfl, hb2⟩; have hv4 := (HEV.out w2 hb2).1.cell 4)
  have HS : Hid (StepP w F c D (m + 1) (.int .i64 1) p (.returned (.int .i64 1)) w2) := Lib.hid (StepP.same (HP.out.mono (Nat.le_succ m)) (HB.out.trans (hb2.mono HB.out.size)))
  go_ret
  exact HS.out
set_option maxRecDepth 100000 in
set_option maxHeartbeats 3200000 in
theorem Do_inj_big (hc : c.Ok) (h : PNx w F c D p m) (hf : Fine p m) (a b n : Int) (BA SA : Option Addr) (bc sn sc : Nat) (bs : List UInt8) (_sides : List Int) {i j : Nat} (_hi : i < c.n) (_hj : j < c.n) (hJ : joinB c a b = true) (_ha : a = (i : Int)) (_hb : b = (j : Int)) (hbig : 40000 < bs.length) : Calls Try.prog 19 #[.pointer (some ⟨D, 0, none⟩), .agg #[.int .i64 17, .int .i64 a, .int .i64 b, .int .i64 n, .slice BA bs.length bc, .int .i64 0, .int .i64 0, .int .i64 0, .int .i64 0, .string ByteArray.empty, .string ByteArray.empty, .string ByteArray.empty, .slice SA sn sc]] w (StepP w F c D (m + 1) (.int .i64 1) p) := by
  have hb0 := one_box' w (.cells #[.int .i64 17, .int .i64 a, .int .i64 b, .int .i64 n, .slice BA bs.length bc, .int .i64 0, .int .i64 0, .int .i64 0, .int .i64 0, .string ByteArray.empty, .string ByteArray.empty, .string ByteArray.empty, .slice SA sn sc] 41)
  have hE := Blk.new w 41 #[.int .i64 17, .int .i64 a, .int .i64 b, .int .i64 n, .slice BA bs.length bc, .int .i64 0, .int .i64 0, .int .i64 0, .int .i64 0, .string ByteArray.empty, .string ByteArray.empty, .string ByteArray.empty, .slice SA sn sc]
  obtain ⟨w0, hw0⟩ : ∃ w0, w0 = w.alloc (.cells #[.int .i64 17, .int .i64 a, .int .i64 b, .int .i64 n, .slice BA bs.length bc, .int .i64 0, .int .i64 0, .int .i64 0, .int .i64 0, .string ByteArray.empty, .string ByteArray.empty, .string ByteArray.empty, .slice SA sn sc] 41) := ⟨_, rfl⟩
  rw [← hw0] at hb0 hE
  have HW0 := Lib.hid hw0
  have hs0 := hb0.size
  have x1 : w0.cell? ⟨w.heap.size, 1, none⟩ = some (.int .i64 a) := hE.cell 1
  have x2 : w0.cell? ⟨w.heap.size, 2, none⟩ = some (.int .i64 b) := hE.cell 2
  have hb1 := one_box' w0 (.cells #[.int .i64 a, .int .i64 b] 89)
  have hX := Blk.new w0 89 #[.int .i64 a, .int .i64 b]
  have hE1 := hE.over hb1
  obtain ⟨w1, hw1⟩ : ∃ w1, w1 = w0.alloc (.cells #[.int .i64 a, .int .i64 b] 89) := ⟨_, rfl⟩
  rw [← hw1] at hb1 hX hE1
  have HW1 := Lib.hid hw1
  have hb01 : Below w.heap.size w w1 := hb0.trans (hb1.mono hs0)
  have hp1 := h.below hb01
  have HB := Lib.hid hb01
  have HP := Lib.hid h
  have HC := Lib.hid hc
  have HFI := Lib.hid hf
  have k0 : w1.cell? ⟨w.heap.size, 0, none⟩ = some (.int .i64 17) := hE1.cell 0
  have HEV : Hid (∀ W, Below w1.heap.size w1 W → Blk W w.heap.size 41 #[.int .i64 17, .int .i64 a, .int .i64 b, .int .i64 n, .slice BA bs.length bc, .int .i64 0, .int .i64 0, .int .i64 0, .int .i64 0, .string ByteArray.empty, .string ByteArray.empty, .string ByteArray.empty, .slice SA sn sc] ∧ Blk W w0.heap.size 89 #[.int .i64 a, .int .i64 b]) := Lib.hid fun W hW => ⟨hE1.over hW, hX.over hW⟩
  have HJ := Lib.hid fun (W : World) (hW : Below w1.heap.size w1 W) => joins_is (hp1.below hW) hJ
  have y0 : w1.cell? ⟨w0.heap.size, 0, none⟩ = some (.int .i64 a) := hX.cell 0
  have y1 : w1.cell? ⟨w0.heap.size, 1, none⟩ = some (.int .i64 b) := hX.cell 1
  have HV4 : Hid (∀ W, Below w1.heap.size w1 W → W.cell? ⟨w.heap.size, 4, none⟩ = some (.slice BA bs.length bc)) := Lib.hid fun W hW => (HEV.out W hW).1.cell 4
  have e1 : decide (((bs.length : Nat) : Int) > 40000) = true := by simp; omega
  have hbI : ((bs.length : Nat) : Int) > 40000 := by omega
  clear hJ _ha _hb hbig
  clear hw0 hw1 hb0 hb1 hE hE1 hX hb01 hp1 h hc hf
  go_enter Try.func19, Try.ntmps19
  go_upto_region 1 with fail
  rw [← HW0.out]
  go_upto_region 2 with fail
  rw [← HW1.out]
  clear x1 x2
  go_wp2_with (go_at_call 41; refine (HJ.out w1 (Below.refl _ _)).mono ?_; rintro _ w2 ⟨rfl, hb2⟩; have hv4 := HV4.out w2 hb2)
  have HS : Hid (StepP w F c D (m + 1) (.int .i64 1) p (.returned (.int .i64 1)) w2) := Lib.hid (StepP.same (HP.out.mono (Nat.le_succ m)) (HB.out.trans (hb2.mono HB.out.size)))
  go_ret
  exact HS.out
set_option maxRecDepth 100000 in
set_option maxHeartbeats 3200000 in
theorem Do_inj (hc : c.Ok) (h : PNx w F c D p m) (hf : Fine p m) (a b n : Int) (BA SA : Option Addr) (bc sn sc : Nat) (bs : List UInt8) (_sides : List Int) {i j : Nat} (hi : i < c.n) (hj : j < c.n) (hJ : joinB c a b = true) (ha : a = (i : Int)) (hb : b = (j : Int)) (hbig : bs.length ≤ 40000) (hr : RdB w w.heap.size BA bs.length bs) (hbn : bs.length ≤ 140737488351232) (hAD : 0 < bs.length → ∀ b o s, BA = some ⟨b, o, s⟩ → b ≠ D) : Calls Try.prog 19 #[.pointer (some ⟨D, 0, none⟩), .agg #[.int .i64 17, .int .i64 a, .int .i64 b, .int .i64 n, .slice BA bs.length bc, .int .i64 0, .int .i64 0, .int .i64 0, .int .i64 0, .string ByteArray.empty, .string ByteArray.empty, .string ByteArray.empty, .slice SA sn sc]] w (StepP w F c D (m + 1) (.int .i64 (launchE c p i j)) (launchP c p i j (p.clock + max 1 (p.slow i j)) bs)) := by
  have hb0 := one_box' w (.cells #[.int .i64 17, .int .i64 a, .int .i64 b, .int .i64 n, .slice BA bs.length bc, .int .i64 0, .int .i64 0, .int .i64 0, .int .i64 0, .string ByteArray.empty, .string ByteArray.empty, .string ByteArray.empty, .slice SA sn sc] 41)
  have hE := Blk.new w 41 #[.int .i64 17, .int .i64 a, .int .i64 b, .int .i64 n, .slice BA bs.length bc, .int .i64 0, .int .i64 0, .int .i64 0, .int .i64 0, .string ByteArray.empty, .string ByteArray.empty, .string ByteArray.empty, .slice SA sn sc]
  obtain ⟨w0, hw0⟩ : ∃ w0, w0 = w.alloc (.cells #[.int .i64 17, .int .i64 a, .int .i64 b, .int .i64 n, .slice BA bs.length bc, .int .i64 0, .int .i64 0, .int .i64 0, .int .i64 0, .string ByteArray.empty, .string ByteArray.empty, .string ByteArray.empty, .slice SA sn sc] 41) := ⟨_, rfl⟩
  rw [← hw0] at hb0 hE
  have HW0 := Lib.hid hw0
  have hs0 := hb0.size
  have x1 : w0.cell? ⟨w.heap.size, 1, none⟩ = some (.int .i64 a) := hE.cell 1
  have x2 : w0.cell? ⟨w.heap.size, 2, none⟩ = some (.int .i64 b) := hE.cell 2
  have hb1 := one_box' w0 (.cells #[.int .i64 a, .int .i64 b] 89)
  have hX := Blk.new w0 89 #[.int .i64 a, .int .i64 b]
  have hE1 := hE.over hb1
  obtain ⟨w1, hw1⟩ : ∃ w1, w1 = w0.alloc (.cells #[.int .i64 a, .int .i64 b] 89) := ⟨_, rfl⟩
  rw [← hw1] at hb1 hX hE1
  have HW1 := Lib.hid hw1
  have hb01 : Below w.heap.size w w1 := hb0.trans (hb1.mono hs0)
  have hp1 := h.below hb01
  have HB := Lib.hid hb01
  have HP := Lib.hid h
  have HC := Lib.hid hc
  have HFI := Lib.hid hf
  have k0 : w1.cell? ⟨w.heap.size, 0, none⟩ = some (.int .i64 17) := hE1.cell 0
  have HEV : Hid (∀ W, Below w1.heap.size w1 W → Blk W w.heap.size 41 #[.int .i64 17, .int .i64 a, .int .i64 b, .int .i64 n, .slice BA bs.length bc, .int .i64 0, .int .i64 0, .int .i64 0, .int .i64 0, .string ByteArray.empty, .string ByteArray.empty, .string ByteArray.empty, .slice SA sn sc] ∧ Blk W w0.heap.size 89 #[.int .i64 a, .int .i64 b]) := Lib.hid fun W hW => ⟨hE1.over hW, hX.over hW⟩
  have HJ := Lib.hid fun (W : World) (hW : Below w1.heap.size w1 W) => joins_is (hp1.below hW) hJ
  have y0 : w1.cell? ⟨w0.heap.size, 0, none⟩ = some (.int .i64 a) := hX.cell 0
  have y1 : w1.cell? ⟨w0.heap.size, 1, none⟩ = some (.int .i64 b) := hX.cell 1
  have HV4 : Hid (∀ W, Below w1.heap.size w1 W → W.cell? ⟨w.heap.size, 4, none⟩ = some (.slice BA bs.length bc)) := Lib.hid fun W hW => (HEV.out W hW).1.cell 4
  have e1 : decide (((bs.length : Nat) : Int) > 40000) = false := by simp; omega
  have hbI : ((bs.length : Nat) : Int) ≤ 40000 := by omega
  have HLA := Lib.hid fun (W : World) (hW : Below w1.heap.size w1 W) => launch_any hc (hp1.below hW) hi hj (p.clock + max 1 (p.slow i j)) BA bs.length bc bs ((hr.below (hb01.trans (hW.mono hb01.size))).more (Nat.le_trans hb01.size hW.size)) hbn hAD hf.way hf.last
  have HDE := Lib.hid fun (W : World) (hW : Below w1.heap.size w1 W) => delay_any hc (hp1.below hW) hi hj
  have HSL := Lib.hid (hf.slow i j (by have := hc.2.1; omega) (by have := hc.2.1; omega))
  have HPR := Lib.hid fun (W : World) (hW : Below w1.heap.size w1 W) => hp1.below hW
  have HNX : Hid (¬ F w.heap.size ∧ ¬ F w0.heap.size) := Lib.hid ⟨fun hf => Nat.lt_irrefl _ (h.1 _ hf), fun hf => by have := h.1 _ hf; omega⟩
  have hclk := hf.clk
  rw [← ha, ← hb] at HLA HDE
  clear hJ ha hb hr hAD hbig
  clear hw0 hw1 hb0 hb1 hE hE1 hX hb01 hp1 h hc hf
  go_enter Try.func19, Try.ntmps19
  go_upto_region 1 with fail
  rw [← HW0.out]
  go_upto_region 2 with fail
  rw [← HW1.out]
  clear x1 x2
  go_upto_region 21 with (go_at_call 41; refine (HJ.out w1 (Below.refl _ _)).mono ?_; rintro _ w2 ⟨rfl, hb2⟩; have hv4 := HV4.out w2 hb2)
  have hwk : IntKind.i64.wrap ((p.clock : Int) + ((max 1 (p.slow i j) : Nat) : Int)) = ((p.clock + max 1 (p.slow i j) : Nat) : Int) := (IntWalk.i64_in _ (by have := HSL.out; omega)).trans (by omega)
  have hbd : Below w1.heap.size w1 w2.drew := below_drewN hb2 1
  have HC2 : Hid (∀ W, Below w1.heap.size w1 W → W.cell? ⟨D, 1, none⟩ = some (.int .i64 (p.clock : Int)) ∧ W.cell? ⟨w0.heap.size, 0, none⟩ = some (.int .i64 a) ∧ W.cell? ⟨w0.heap.size, 1, none⟩ = some (.int .i64 b) ∧ W.cell? ⟨w.heap.size, 4, none⟩ = some (.slice BA bs.length bc)) := Lib.hid fun W hW => by
    obtain ⟨_, P', S', L', v', X', hP'⟩ := HPR.out W hW
    exact ⟨hP'.blk.cell 1, (HEV.out W hW).2.cell 0, (HEV.out W hW).2.cell 1, HV4.out W hW⟩
  have hx0 := HC2.out w2.drew hbd
  have HBD := Lib.hid hbd
  clear hbd hb2 hv4 y0 y1
  go_region_held3 (fun w' => w'.cell? ⟨D, 1, none⟩ = some (.int .i64 (p.clock : Int)) ∧ w'.cell? ⟨w0.heap.size, 0, none⟩ = some (.int .i64 a) ∧ w'.cell? ⟨w0.heap.size, 1, none⟩ = some (.int .i64 b) ∧ w'.cell? ⟨w.heap.size, 4, none⟩ = some (.slice BA bs.length bc)) ((first | exact hx2 | exact hx1 | exact hx0)) ((first
    | (go_at_call 46; refine (HDE.out w2.drew HBD.out).mono ?_; rintro _ w3 ⟨rfl, hb3⟩; have hbw3 : Below w1.heap.size w1 w3 := HBD.out.trans (hb3.mono HBD.out.size); have hx1 := HC2.out w3 hbw3)
    | (go_at_call 45; refine (HLA.out w3 hbw3).mono ?_; rintro _ w4 ⟨rfl, F', h3, h4, h5⟩; have H3 := Lib.hid (And.intro h3 (And.intro h4 h5)); clear h3 h4 h5; have hx2 : w4.cell? ⟨D, 1, none⟩ = some (.int .i64 (p.clock : Int)) ∧ w4.cell? ⟨w0.heap.size, 0, none⟩ = some (.int .i64 a) ∧ w4.cell? ⟨w0.heap.size, 1, none⟩ = some (.int .i64 b) ∧ w4.cell? ⟨w.heap.size, 4, none⟩ = some (.slice BA bs.length bc) := (by
        obtain ⟨_, P', S', L', v', X', hP'⟩ := H3.out.1
        have hXw := (HEV.out w3 hbw3).2.chg H3.out.2.2 HNX.out.2
        have hEw := (HEV.out w3 hbw3).1.chg H3.out.2.2 HNX.out.1
        exact ⟨(by rw [← launch_clock c p i j (p.clock + max 1 (p.slow i j)) bs]; exact hP'.blk.cell 1), hXw.cell 0, hXw.cell 1, hEw.cell 4⟩))))
  all_goals
    have HE2 : Hid (StepP w F c D (m + 1) (.int .i64 (launchE c p i j)) (launchP c p i j (p.clock + max 1 (p.slow i j)) bs) (.returned (.int .i64 (launchE c p i j))) w4) := Lib.hid ⟨rfl, F', H3.out.1.mono (Nat.le_succ m), fun k hk => (H3.out.2.1 k hk).imp id fun h => Nat.le_trans HB.out.size (Nat.le_trans hbw3.size h), (Chg.of_below (HB.out.trans (hbw3.mono HB.out.size)) F).trans H3.out.2.2⟩
    clear hx2 hx1 hx0
    go_wp2
    go_ret
    exact HE2.out
end Go.Proofs.Ytgfhmfhhobhojaa
