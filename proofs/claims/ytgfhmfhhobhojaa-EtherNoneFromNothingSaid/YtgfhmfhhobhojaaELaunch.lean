/-
  The program's network: launch, Post.
-/
import Derived.Test.YtgfhmfhhobhojaaEAdd
namespace Go.Proofs.Ytgfhmfhhobhojaa
open Go.ChangeShapes Go.WideShapes Go.ChangeAt Go.RowKit
variable {w : World} {F : Nat → Prop} {c : ECfg} {D : Nat} {p : PV} {m : Nat}
def launchE (c : ECfg) (p : PV) (i j : Nat) : Int := if p.shut i j = true then 30 else if c.room ≤ p.way.length then 31 else 0
def launchR (c : ECfg) (p : PV) (i j : Nat) : Int := if launchE c p i j = 0 then (p.last : Int) + 1 else 0
def launchP (c : ECfg) (p : PV) (i j due : Nat) (bs : List UInt8) : PV := if launchE c p i j = 0 then addP p i j due bs else p
theorem drewN_add (w : World) (a b : Nat) : (w.drewN a).drewN b = w.drewN (a + b) := by simp [World.drewN, Nat.add_assoc]
set_option maxRecDepth 100000 in
set_option maxHeartbeats 3200000 in
theorem launch_any (hc : c.Ok) (h : PNx w F c D p m) {i j : Nat} (hi : i < c.n) (hj : j < c.n) (due : Nat) (bA : Option Addr) (n cap : Nat) (bs : List UInt8) (hr : RdB w w.heap.size bA n bs) (hn : n ≤ 140737488351232) (hAD : 0 < n → ∀ b o s, bA = some ⟨b, o, s⟩ → b ≠ D) (hlen : p.way.length ≤ 1099511627776) (hlast : p.last ≤ 4611686018427387904) : Calls Try.prog 45 #[.pointer (some ⟨D, 0, none⟩), .agg #[.int .i64 (i : Int), .int .i64 (j : Int)], .int .i64 (due : Int), .slice bA n cap] w (StepP w F c D m (.tuple #[.int .i64 (launchR c p i j), .int .i64 (launchE c p i j)]) (launchP c p i j due bs)) := by
  have hn16 := hc.2.1
  have hb0 := one_box' w (.cells #[.int .i64 (i : Int), .int .i64 (j : Int)] 89)
  have hX0 := Blk.new w 89 #[.int .i64 (i : Int), .int .i64 (j : Int)]
  obtain ⟨w0, hw0⟩ : ∃ w0, w0 = w.alloc (.cells #[.int .i64 (i : Int), .int .i64 (j : Int)] 89) := ⟨_, rfl⟩
  rw [← hw0] at hb0 hX0
  have HX := Lib.hid h
  have hp0 := h.below hb0
  have HADD := Lib.hid fun (d : Nat) => add_any (h.below (below_drewN hb0 d)) i j due bA n cap bs ((hr.below (below_drewN hb0 d)).more (below_drewN hb0 d).size) hn hAD hlen hlast
  have HW0 := Lib.hid hw0
  have HB0 := Lib.hid hb0
  obtain ⟨hF0, P, S, L, v, X, hP⟩ := hp0
  obtain ⟨c0, c1, c2, c3, c4, c5, c6⟩ := hP.cell
  have x0 : w0.cell? ⟨w.heap.size, 0, none⟩ = some (.int .i64 (i : Int)) := hX0.cell 0
  have x1 : w0.cell? ⟨w.heap.size, 1, none⟩ = some (.int .i64 (j : Int)) := hX0.cell 1
  obtain ⟨A6, cap6, rfl, hcp6, hcm6⟩ := own_shape hP.row
  have hxl := hP.len
  cases hs : p.shut i j with
  | true =>
    have hlk := hP.lookS (by omega : i < 16) (by omega : j < 16) (x := 1) (by rw [hs]; rfl) w0.drew (below_drewN (Below.refl _ _) 1) hF0
    have HE : Hid (launchE c p i j = 30) := Lib.hid (by simp [launchE, hs])
    have d4 : w0.drew.cell? ⟨D, 4, none⟩ = some (.map (some S)) := c4
    have y0 : w0.drew.cell? ⟨w.heap.size, 0, none⟩ = some (.int .i64 (i : Int)) := x0
    have y1 : w0.drew.cell? ⟨w.heap.size, 1, none⟩ = some (.int .i64 (j : Int)) := x1
    clear hw0 hb0 hX0 h hP hs hr hxl
    go_enter Try.func45, Try.ntmps45
    go_upto_region 1 with fail
    rw [← HW0.out]
    have HB : Hid (Below w.heap.size w w0.drew) := Lib.hid (below_drewN HB0.out 1)
    go_region_held3 (fun w' => w'.cell? ⟨D, 4, none⟩ = some (.map (some S)) ∧ w'.cell? ⟨w.heap.size, 0, none⟩ = some (.int .i64 (i : Int)) ∧ w'.cell? ⟨w.heap.size, 1, none⟩ = some (.int .i64 (j : Int))) ((exact ⟨d4, y0, y1⟩)) (fail)
    all_goals
      go_wp2
      go_ret2
      simp only [launchR, launchP, HE.out, if_false, Int.reduceEq]
      exact StepP.same HX.out HB.out
  | false =>
    have hlk := hP.lookS (by omega : i < 16) (by omega : j < 16) (x := 0) (by rw [hs]; rfl) w0.drew (below_drewN (Below.refl _ _) 1) hF0
    have d4 : w0.drew.cell? ⟨D, 4, none⟩ = some (.map (some S)) := c4
    have y0 : w0.drew.cell? ⟨w.heap.size, 0, none⟩ = some (.int .i64 (i : Int)) := x0
    have y1 : w0.drew.cell? ⟨w.heap.size, 1, none⟩ = some (.int .i64 (j : Int)) := x1
    have HS := Lib.hid hs
    by_cases hrm : c.room ≤ X.length
    · have HE : Hid (launchE c p i j = 31) := Lib.hid (by simp [launchE, hs, hxl, hrm])
      have e1 : decide ((X.length : Int) ≥ (c.room : Int)) = true := by simp; omega
      obtain ⟨w1, hw1⟩ : ∃ w1, w1 = w0.drew := ⟨_, rfl⟩
      have d6 : w1.cell? ⟨D, 6, none⟩ = some (.slice A6 X.length cap6) := by rw [hw1]; exact c6
      have d0 : w1.cell? ⟨D, 0, none⟩ = some (.int .i64 (c.room : Int)) := by rw [hw1]; exact c0
      have HB1 : Hid (Below w.heap.size w w1) := Lib.hid (by rw [hw1]; exact below_drewN HB0.out 1)
      have HW1 := Lib.hid hw1
      have hI : (c.room : Int) ≤ (X.length : Int) := by omega
      clear hw0 hw1 hb0 hX0 h hP hs hr hxl hrm
      go_enter Try.func45, Try.ntmps45
      go_upto_region 1 with fail
      rw [← HW0.out]
      go_region_held3 (fun w' => w'.cell? ⟨D, 4, none⟩ = some (.map (some S)) ∧ w'.cell? ⟨w.heap.size, 0, none⟩ = some (.int .i64 (i : Int)) ∧ w'.cell? ⟨w.heap.size, 1, none⟩ = some (.int .i64 (j : Int))) ((exact ⟨d4, y0, y1⟩)) (fail)
      all_goals
        go_upto_region 3 with fail
        rw [← HW1.out]
        go_quiet (fail)
        have HB : Hid (Below w.heap.size w (w1.drewN nq)) := Lib.hid (below_drewN HB1.out nq)
        go_wp2
        go_ret2
        simp only [launchR, launchP, HE.out, if_false, Int.reduceEq]
        exact StepP.same HX.out HB.out
    · have HE : Hid (launchE c p i j = 0) := Lib.hid (by simp [launchE, hs, hxl]; omega)
      have e1 : decide ((X.length : Int) ≥ (c.room : Int)) = false := by simp; omega
      obtain ⟨w1, hw1⟩ : ∃ w1, w1 = w0.drew := ⟨_, rfl⟩
      have d6 : w1.cell? ⟨D, 6, none⟩ = some (.slice A6 X.length cap6) := by rw [hw1]; exact c6
      have d0 : w1.cell? ⟨D, 0, none⟩ = some (.int .i64 (c.room : Int)) := by rw [hw1]; exact c0
      have HX1 : Hid (∀ k, (w1.drewN k).cell? ⟨w.heap.size, 0, none⟩ = some (.int .i64 (i : Int)) ∧ (w1.drewN k).cell? ⟨w.heap.size, 1, none⟩ = some (.int .i64 (j : Int))) := Lib.hid fun k => by rw [hw1]; exact ⟨x0, x1⟩
      have HW1 := Lib.hid hw1
      have hI : ¬ (c.room : Int) ≤ (X.length : Int) := by omega
      clear hw0 hw1 hb0 hX0 h hP hs hr hxl hrm
      go_enter Try.func45, Try.ntmps45
      go_upto_region 1 with fail
      rw [← HW0.out]
      go_region_held3 (fun w' => w'.cell? ⟨D, 4, none⟩ = some (.map (some S)) ∧ w'.cell? ⟨w.heap.size, 0, none⟩ = some (.int .i64 (i : Int)) ∧ w'.cell? ⟨w.heap.size, 1, none⟩ = some (.int .i64 (j : Int))) ((exact ⟨d4, y0, y1⟩)) (fail)
      all_goals
        go_upto_region 3 with fail
        rw [← HW1.out]
        go_quiet (fail)
        have HA2 : Hid (Calls Try.prog 61 #[.pointer (some ⟨D, 0, none⟩), .agg #[.int .i64 (i : Int), .int .i64 (j : Int)], .int .i64 (due : Int), .slice bA n cap] (w1.drewN nq) (StepP (w1.drewN nq) F c D m (.int .i64 ((p.last : Int) + 1)) (addP p i j due bs))) := Lib.hid (by
          have h := HADD.out (1 + nq)
          rwa [show w0.drewN (1 + nq) = w1.drewN nq by rw [HW1.out]; exact (drewN_add w0 1 nq).symm] at h)
        obtain ⟨y0', y1'⟩ := HX1.out nq
        have HB : Hid (Below w.heap.size w (w1.drewN nq)) := Lib.hid (by rw [HW1.out]; exact below_drewN (below_drewN HB0.out 1) nq)
        clear d6 d0 x0 x1
        generalize w1.drewN nq = w2 at *
        go_wp2_with fail
        refine HA2.out.mono ?_
        rintro _ w3 ⟨rfl, F', h3, h4, h5⟩
        have HE2 : Hid (StepP w F c D m (.tuple #[.int .i64 (launchR c p i j), .int .i64 (launchE c p i j)]) (launchP c p i j due bs) (.returned (.tuple #[.int .i64 ((p.last : Int) + 1), .int .i64 0])) w3) := Lib.hid ⟨by simp only [launchR, HE.out, if_true], F', by simp only [launchP, HE.out, if_true]; exact h3, fun k hk => (h4 k hk).imp id fun h => Nat.le_trans HB.out.size h, (Chg.of_below HB.out F).trans h5⟩
        clear h3 h4 h5
        go_wp2
        go_ret2
        exact HE2.out
end Go.Proofs.Ytgfhmfhhobhojaa
