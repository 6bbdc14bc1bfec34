/-
  The program's network: Post.
-/
import Derived.Test.YtgfhmfhhobhojaaELaunch
namespace Go.Proofs.Ytgfhmfhhobhojaa
open Go.ChangeShapes Go.WideShapes Go.ChangeAt Go.RowKit
variable {w : World} {F : Nat → Prop} {c : ECfg} {D : Nat} {p : PV} {m : Nat}
def postE (c : ECfg) (p : PV) (a b : Int) (n : Nat) (lives : Bool) : Int := if joinB c a b = true ∧ n ≤ 40000 then (if lives = true ∧ p.down a.toNat = true then 32 else launchE c p a.toNat b.toNat) else 1
def postR (c : ECfg) (p : PV) (a b : Int) (n : Nat) (lives : Bool) : Int := if postE c p a b n lives = 0 then (p.last : Int) + 1 else 0
def postP (c : ECfg) (p : PV) (a b : Int) (bs : List UInt8) (lives : Bool) : PV := if postE c p a b bs.length lives = 0 then addP p a.toNat b.toNat (p.clock + max 1 (p.slow a.toNat b.toNat)) bs else p
theorem launch_clock (c : ECfg) (p : PV) (i j due : Nat) (bs : List UInt8) : (launchP c p i j due bs).clock = p.clock := by
  unfold launchP; split <;> rfl
set_option maxRecDepth 100000 in
set_option maxHeartbeats 3200000 in
theorem Post_any (hc : c.Ok) (h : PNx w F c D p m) (a b : Int) (bA : Option Addr) (cap : Nat) (bs : List UInt8) (hr : RdB w w.heap.size bA bs.length bs) (hn : bs.length ≤ 140737488351232) (hAD : 0 < bs.length → ∀ b o s, bA = some ⟨b, o, s⟩ → b ≠ D) (hlen : p.way.length ≤ 1099511627776) (hlast : p.last ≤ 4611686018427387904) (hclk : p.clock ≤ 4611686018427387904) (hsl : ∀ i j, i < 16 → j < 16 → p.slow i j ≤ 16) : Calls Try.prog 20 #[.pointer (some ⟨D, 0, none⟩), .int .i64 a, .int .i64 b, .slice bA bs.length cap] w (StepP w F c D m (.tuple #[.int .i64 (postR c p a b bs.length true), .int .i64 (postE c p a b bs.length true)]) (postP c p a b bs true)) := by
  have hn16 := hc.2.1
  have hb0 := one_box' w (.cells #[.int .i64 a, .int .i64 b] 89)
  have hX := Blk.new w 89 #[.int .i64 a, .int .i64 b]
  have hp := h.below hb0
  obtain ⟨w0, hw0⟩ : ∃ w0, w0 = w.alloc (.cells #[.int .i64 a, .int .i64 b] 89) := ⟨_, rfl⟩
  rw [← hw0] at hb0 hX hp
  have HW := Lib.hid hw0
  have HB := Lib.hid hb0
  have hs0 := hb0.size
  have HX := Lib.hid hX
  have HPX := Lib.hid h
  have HNX : Hid (¬ F w.heap.size) := Lib.hid fun hf => Nat.lt_irrefl _ (h.1 _ hf)
  have x0 : w0.cell? ⟨w.heap.size, 0, none⟩ = some (.int .i64 a) := hX.cell 0
  have x1 : w0.cell? ⟨w.heap.size, 1, none⟩ = some (.int .i64 b) := hX.cell 1
  rcases joinB_cases c a b with ⟨i, j, rfl, rfl, hi, hj, hij, hJ⟩ | hJ
  · have HJ := Lib.hid (joins_is hp hJ)
    by_cases hbl : bs.length ≤ 40000
    · have hbI : ((bs.length : Nat) : Int) ≤ 40000 := by omega
      have e1 : decide (((bs.length : Nat) : Int) > 40000) = false := by simp; omega
      have HPR := Lib.hid fun (W : World) (hW : Below w0.heap.size w0 W) => hp.below hW
      have HLA := Lib.hid fun (W : World) (hW : Below w0.heap.size w0 W) => launch_any hc (hp.below hW) hi hj (p.clock + max 1 (p.slow i j)) bA bs.length cap bs ((hr.below (hb0.trans (hW.mono hs0))).more (Nat.le_trans hs0 hW.size)) hn hAD hlen hlast
      have HDE := Lib.hid fun (W : World) (hW : Below w0.heap.size w0 W) => delay_any hc (hp.below hW) hi hj
      have hEE : postE c p (i : Int) (j : Int) bs.length true = if p.down i = true then 32 else launchE c p i j := by
        unfold postE
        rw [if_pos ⟨hJ, hbl⟩]
        simp only [Int.toNat_natCast, true_and]
      have HSL := Lib.hid (hsl i j (by omega) (by omega))
      have hiI : (i : Int) < (c.n : Int) := by omega
      cases hd : p.down i with
      | true =>
        have HE : Hid (postE c p (i : Int) (j : Int) bs.length true = 32) := Lib.hid (by rw [hEE, if_pos hd])
        have HD := Lib.hid hd
        clear hw0 hX hb0 hp h hJ hEE hd hr hAD hsl
        go_enter Try.func20, Try.ntmps20
        go_upto_region 2 with fail
        rw [← HW.out]
        go_upto_region 4 with (go_at_call 41; refine HJ.out.mono ?_; rintro _ w1 ⟨rfl, hb1⟩)
        obtain ⟨hF1, P, S, L, v, X, hP⟩ := HPR.out w1 hb1
        obtain ⟨n0, n1, n2⟩ := hP.peer hi
        have c3 : w1.cell? ⟨D, 3, none⟩ = some (.slice (some ⟨P, 0, none⟩) c.n c.n) := hP.blk.cell 3
        rw [HD.out] at n0
        have HB1 : Hid (Below w.heap.size w w1) := Lib.hid (HB.out.trans (hb1.mono hs0))
        clear hb1 hP hF1 n1 n2 x0 x1
        go_wp2
        go_ret2
        simp only [postR, postP, HE.out, if_false, Int.reduceEq]
        exact StepP.same HPX.out HB1.out
      | false =>
        have HE : Hid (postE c p (i : Int) (j : Int) bs.length true = launchE c p i j) := Lib.hid (by rw [hEE, if_neg (by rw [hd]; simp)])
        have HD := Lib.hid hd
        clear hw0 hX hb0 hp h hJ hEE hd hr hAD hsl
        go_enter Try.func20, Try.ntmps20
        go_upto_region 2 with fail
        rw [← HW.out]
        go_upto_region 4 with (go_at_call 41; refine HJ.out.mono ?_; rintro _ w1 ⟨rfl, hb1⟩)
        obtain ⟨hF1, P, S, L, v, X, hP⟩ := HPR.out w1 hb1
        obtain ⟨n0, n1, n2⟩ := hP.peer hi
        have c3 : w1.cell? ⟨D, 3, none⟩ = some (.slice (some ⟨P, 0, none⟩) c.n c.n) := hP.blk.cell 3
        rw [HD.out] at n0
        have HB1 := Lib.hid hb1
        have HF1 := Lib.hid hF1
        clear hb1 n1 n2 x0 x1
        go_upto_region 6 with fail
        have hwk : IntKind.i64.wrap ((p.clock : Int) + ((max 1 (p.slow i j) : Nat) : Int)) = ((p.clock + max 1 (p.slow i j) : Nat) : Int) := (IntWalk.i64_in _ (by have := HSL.out; omega)).trans (by omega)
        have hbd : Below w0.heap.size w0 w1.drew := below_drewN HB1.out 1
        have HC : Hid (∀ W, Below w0.heap.size w0 W → W.cell? ⟨D, 1, none⟩ = some (.int .i64 (p.clock : Int)) ∧ W.cell? ⟨w.heap.size, 0, none⟩ = some (.int .i64 (i : Int)) ∧ W.cell? ⟨w.heap.size, 1, none⟩ = some (.int .i64 (j : Int))) := Lib.hid fun W hW => by
          obtain ⟨_, P', S', L', v', X', hP'⟩ := HPR.out W hW
          exact ⟨hP'.blk.cell 1, (HX.out.over hW).cell 0, (HX.out.over hW).cell 1⟩
        have hx0 := HC.out w1.drew hbd
        have HBD := Lib.hid hbd
        clear hbd hP hF1 n0 c3
        go_region_held3 (fun w' => w'.cell? ⟨D, 1, none⟩ = some (.int .i64 (p.clock : Int)) ∧ w'.cell? ⟨w.heap.size, 0, none⟩ = some (.int .i64 (i : Int)) ∧ w'.cell? ⟨w.heap.size, 1, none⟩ = some (.int .i64 (j : Int))) ((first | exact hx2 | exact hx1 | exact hx0)) ((first
          | (go_at_call 46; refine (HDE.out w1.drew HBD.out).mono ?_; rintro _ w2 ⟨rfl, hb2⟩; have hbw2 : Below w0.heap.size w0 w2 := HBD.out.trans (hb2.mono HBD.out.size); have hx1 := HC.out w2 hbw2)
          | (go_at_call 45; refine (HLA.out w2 hbw2).mono ?_; rintro _ w3 ⟨rfl, F', h3, h4, h5⟩; have H3 := Lib.hid (And.intro h3 (And.intro h4 h5)); clear h3 h4 h5; have hx2 : w3.cell? ⟨D, 1, none⟩ = some (.int .i64 (p.clock : Int)) ∧ w3.cell? ⟨w.heap.size, 0, none⟩ = some (.int .i64 (i : Int)) ∧ w3.cell? ⟨w.heap.size, 1, none⟩ = some (.int .i64 (j : Int)) := (by
              obtain ⟨_, P', S', L', v', X', hP'⟩ := H3.out.1
              have hXw := (HX.out.over hbw2).chg H3.out.2.2 HNX.out
              exact ⟨(by rw [← launch_clock c p i j (p.clock + max 1 (p.slow i j)) bs]; exact hP'.blk.cell 1), hXw.cell 0, hXw.cell 1⟩))))
        all_goals
          have HE2 : Hid (StepP w F c D m (.tuple #[.int .i64 (postR c p i j bs.length true), .int .i64 (postE c p i j bs.length true)]) (postP c p i j bs true) (.returned (.tuple #[.int .i64 (launchR c p i j), .int .i64 (launchE c p i j)])) w3) := Lib.hid ⟨by simp only [postR, HE.out, launchR], F', by simp only [postP, HE.out, Int.toNat_natCast]; exact H3.out.1, fun k hk => (H3.out.2.1 k hk).imp id fun h => Nat.le_trans HB.out.size (Nat.le_trans hbw2.size h), (Chg.of_below (HB.out.trans (hbw2.mono hs0)) F).trans H3.out.2.2⟩
          clear hx2 hx1 hx0
          go_wp2
          go_ret2
          exact HE2.out
    · have e1 : decide (((bs.length : Nat) : Int) > 40000) = true := by simp; omega
      have hbI : ((bs.length : Nat) : Int) > 40000 := by omega
      have HE : Hid (postE c p (i : Int) (j : Int) bs.length true = 1) := Lib.hid (by unfold postE; rw [if_neg (fun h => hbl h.2)])
      clear hw0 hX hb0 hp h hJ hr hAD hsl hbl
      go_enter Try.func20, Try.ntmps20
      go_upto_region 2 with fail
      rw [← HW.out]
      go_wp2_with (go_at_call 41; refine HJ.out.mono ?_; rintro _ w1 ⟨rfl, hb1⟩)
      have HB1 : Hid (Below w.heap.size w w1) := Lib.hid (HB.out.trans (hb1.mono hs0))
      go_ret2
      simp only [postR, postP, HE.out, if_false, Int.reduceEq]
      exact StepP.same HPX.out HB1.out
  · have HE : Hid (postE c p a b bs.length true = 1) := Lib.hid (by unfold postE; rw [if_neg (fun h => by rw [hJ] at h; cases h.1)])
    have HJ := Lib.hid (joins_is hp hJ)
    clear hw0 hX hb0 hp h hJ hr hAD hsl
    go_enter Try.func20, Try.ntmps20
    go_upto_region 2 with fail
    rw [← HW.out]
    go_wp2_with (go_at_call 41; refine HJ.out.mono ?_; rintro _ w1 ⟨rfl, hb1⟩)
    have HB1 : Hid (Below w.heap.size w w1) := Lib.hid (HB.out.trans (hb1.mono hs0))
    go_ret2
    simp only [postR, postP, HE.out, if_false, Int.reduceEq]
    exact StepP.same HPX.out HB1.out
end Go.Proofs.Ytgfhmfhhobhojaa
