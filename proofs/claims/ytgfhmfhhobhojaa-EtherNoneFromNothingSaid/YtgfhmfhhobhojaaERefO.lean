/-
  The document's network: post, Post.
-/
import Derived.Test.YtgfhmfhhobhojaaERefP
namespace Go.Proofs.Ytgfhmfhhobhojaa
open Go.ChangeShapes Go.WideShapes Go.ChangeAt Go.RowKit
variable {w : World} {F : Nat → Prop} {c : ECfg} {D : Nat} {r : RV}
def launchRE (c : ECfg) (r : RV) (i j : Nat) : Int := if r.shut i j = true then 30 else if c.room ≤ (wayOf r.all).length then 31 else 0
def postRE (c : ECfg) (r : RV) (a b : Int) (n : Nat) (lives : Bool) : Int := if joinB c a b = true ∧ n ≤ 40000 then (if lives = true ∧ r.up a.toNat = false then 32 else launchRE c r a.toNat b.toNat) else 1
def postRR (c : ECfg) (r : RV) (a b : Int) (n : Nat) (lives : Bool) : Int := if postRE c r a b n lives = 0 then (r.all.length : Int) + 1 else 0
def postRP (c : ECfg) (r : RV) (a b : Int) (bs : List UInt8) (lives : Bool) : RV := if postRE c r a b bs.length lives = 0 then putR r a.toNat b.toNat (r.now + r.slow a.toNat b.toNat) bs else r
theorem StepR.below {v : Value} {r' : RV} {w0 w1 w' : World} {e : Ending} (_hF : ∀ k, F k → k < w0.heap.size) (hb : Below w0.heap.size w0 w1) (h : StepR w1 F c D v r' e w') : StepR w0 F c D v r' e w' := by
  obtain ⟨h1, F', h2, h3, h4⟩ := h
  exact ⟨h1, F', h2, fun k hk => by
    rcases h3 k hk with h | h
    · exact .inl h
    · right; have := hb.size; omega, (Chg.of_below hb F).trans h4⟩
theorem post_no {a b : Int} {bs : List UInt8} {lives : Bool} {x : Int} (h : RNx w F c D r) {w' : World} (hb : Below w.heap.size w w') (hE : postRE c r a b bs.length lives = x) (hx : x ≠ 0) : StepR w F c D (.tuple #[.int .i64 (postRR c r a b bs.length lives), .int .i64 (postRE c r a b bs.length lives)]) (postRP c r a b bs lives) (.returned (.tuple #[.int .i64 0, .int .i64 x])) w' := by
  unfold postRR postRP
  rw [hE, if_neg hx, if_neg hx]
  exact StepR.same h hb
set_option maxRecDepth 100000 in
set_option maxHeartbeats 6400000 in
theorem rpost_any (hc : c.Ok) (h : RNx w F c D r) (a b : Int) (bA : Option Addr) (cap : Nat) (bs : List UInt8) (hr : RdB w w.heap.size bA bs.length bs) (hn : bs.length ≤ 140737488351232) (lives : Bool) (hl : r.all.length ≤ 1099511627776) (hnow : r.now ≤ 4611686018427387904) (hsl : ∀ i j, i < 16 → j < 16 → r.slow i j ≤ 16) : Calls Try.prog 79 #[.pointer (some ⟨D, 0, none⟩), .int .i64 a, .int .i64 b, .slice bA bs.length cap, .bool lives] w (StepR w F c D (.tuple #[.int .i64 (postRR c r a b bs.length lives), .int .i64 (postRE c r a b bs.length lives)]) (postRP c r a b bs lives)) := by
  have hn16 := hc.2.1
  have HH := Lib.hid h
  have HP := Lib.hid (path_any h a b)
  rcases joinB_cases c a b with ⟨i, j, rfl, rfl, hi, hj, hij, hJ⟩ | hJ
  · by_cases hbl : bs.length ≤ 40000
    · have hbI : ((bs.length : Nat) : Int) ≤ 40000 := by omega
      have e1 : decide (((bs.length : Nat) : Int) > 40000) = false := by simp; omega
      have HE0 : postRE c r (i : Int) (j : Int) bs.length lives = if lives = true ∧ r.up i = false then 32 else launchRE c r i j := by
        unfold postRE
        rw [if_pos ⟨hJ, hbl⟩]
        simp only [Int.toNat_natCast]
      have hiI : (i : Int) < 16 := by omega
      have hjI : (j : Int) < 16 := by omega
      have hJ' := Lib.hid hJ
      have HL := Lib.hid hl
      have HR := Lib.hid hr
      obtain ⟨hF, v, X, hX⟩ := id h
      obtain ⟨c0, c1, c2, c3⟩ := hX.cell
      obtain ⟨n0, _, _⟩ := hX.node (show i < 16 by omega)
      obtain ⟨p0, p1⟩ := hX.path (show i < 16 by omega) (show j < 16 by omega)
      clear h hr hl c0 c3
      by_cases hdn : lives = true ∧ r.up i = false
      · obtain ⟨rfl, hu⟩ := hdn
        rw [if_pos ⟨rfl, hu⟩] at HE0
        have HE := Lib.hid (post_no (bs := bs) HH.out (Below.refl _ _) HE0 (by decide))
        rw [hu] at n0
        clear HE0 hu hJ hX hF
        go_enter Try.func79, Try.ntmps79
        go_wp2_with (go_at_call 78; refine HP.out.mono ?_; rintro _ _ ⟨rfl, rfl⟩; simp only [hJ'.out])
        go_ret2
        exact HE.out
      · rw [if_neg hdn] at HE0
        have hl2 : lives = false ∨ (lives = true ∧ r.up i = true) := by
          cases lives <;> simp_all
        cases hs : r.shut i j with
        | true =>
          rw [hs] at p0
          have HE := Lib.hid (post_no (bs := bs) HH.out (Below.refl _ _) (HE0.trans (by unfold launchRE; rw [if_pos hs])) (by decide))
          clear HE0 hJ hs hX hF
          rcases hl2 with rfl | ⟨rfl, hu⟩
          · clear hdn
            go_enter Try.func79, Try.ntmps79
            go_wp2_with (go_at_call 78; refine HP.out.mono ?_; rintro _ _ ⟨rfl, rfl⟩; simp only [hJ'.out])
            go_ret2
            exact HE.out
          · rw [hu] at n0
            clear hdn hu
            go_enter Try.func79, Try.ntmps79
            go_wp2_with (go_at_call 78; refine HP.out.mono ?_; rintro _ _ ⟨rfl, rfl⟩; simp only [hJ'.out])
            go_ret2
            exact HE.out
        | false =>
          rw [hs] at p0
          have HWY := Lib.hid (way_any HH.out HL.out)
          have HE0 := Lib.hid HE0
          have HSH := Lib.hid hs
          have HSL := Lib.hid (hsl i j (by omega) (by omega))
          have HX := Lib.hid hX
          have HF := Lib.hid hF
          have hi16 : i < 16 := by omega
          have hj16 : j < 16 := by omega
          clear hJ hs hsl hX hF
          rcases hl2 with rfl | ⟨rfl, hu⟩
          · clear hdn
            go_enter Try.func79, Try.ntmps79
            go_upto_region 8 with (first | (go_at_call 78; refine HP.out.mono ?_; rintro _ _ ⟨rfl, rfl⟩; simp only [hJ'.out]) | (go_at_call 82; refine HWY.out.mono ?_; rintro _ w1 ⟨A, n, wc, rfl, hs⟩; have HS := Lib.hid hs; clear hs))
            have hX1 := HX.out.below HF.out HS.out.below
            obtain ⟨_, d1, d2, _⟩ := hX1.cell
            obtain ⟨_, s1⟩ := hX1.path hi16 hj16
            have HX1 := Lib.hid hX1
            clear hX1 c1 c2 n0 p0 p1
            by_cases hrm : c.room ≤ n
            · have hrI : (c.room : Int) ≤ (n : Int) := by omega
              have HE := Lib.hid (post_no (bs := bs) HH.out HS.out.below (HE0.out.trans (by unfold launchRE; rw [if_neg (by simp [HSH.out]), if_pos (by rw [← idxOf_length, ← HS.out.len]; exact hrm)])) (by decide))
              go_wp2
              go_ret2
              exact HE.out
            · have hrI : ¬ (c.room : Int) ≤ (n : Int) := by omega
              have HEz : Hid (postRE c r (i : Int) (j : Int) bs.length false = 0) := Lib.hid (HE0.out.trans (by unfold launchRE; rw [if_neg (by simp [HSH.out]), if_neg (by rw [← idxOf_length, ← HS.out.len]; exact hrm)]))
              obtain ⟨wd, hwd⟩ : ∃ wd, wd = w1.drew := ⟨_, rfl⟩
              have hbd : Below w.heap.size w wd := by rw [hwd]; exact below_drewN HS.out.below 1
              have t2 : wd.cell? ⟨D, 2, none⟩ = some (.int .i64 (r.now : Int)) := by rw [hwd]; exact d2
              have ts : wd.cell? ⟨D, 307 + i * 16 + j, none⟩ = some (.int .i64 (r.slow i j : Int)) := by rw [hwd]; exact s1
              have HPU : Hid (Calls Try.prog 86 #[.pointer (some ⟨D, 0, none⟩), .int .i64 (i : Int), .int .i64 (j : Int), .int .i64 ((r.now : Int) + (r.slow i j : Int)), .slice bA bs.length cap] wd (StepR wd F c D (.int .i64 ((r.all.length : Int) + 1)) (putR r i j (r.now + r.slow i j) bs))) := by
                have h1 := put_any (HH.out.below hbd) i j (r.now + r.slow i j) bA cap bs ((HR.out.below hbd).more hbd.size) hn HL.out
                rw [Int.natCast_add] at h1
                exact Lib.hid h1
              have hwr : IntKind.i64.wrap ((r.now : Int) + (r.slow i j : Int)) = (r.now : Int) + (r.slow i j : Int) := IntWalk.i64_in _ (by have := HSL.out; omega)
              have HWD := Lib.hid hwd
              have HBD := Lib.hid hbd
              clear hwd hbd d2 s1
              go_upto_region 10 with fail
              clear d1 hrI
              refine region_tail 17 (by kernel_rfl) (by kernel_rfl) ?_
              simp only [List.take_succ_cons, List.take_zero, List.drop_succ_cons, List.drop_zero]
              rw [← HWD.out]
              repeat still_step
              refine wpStill_nil ?_
              change wpList _ _ _ _ _ wd
              go_wp2_with (go_at_call 86; refine HPU.out.mono ?_; rintro _ w3 hst; have hv := hst.1; subst hv; have HST := Lib.hid (StepR.below HF.out HBD.out hst); clear hst)
              have HE : Hid (StepR w F c D (.tuple #[.int .i64 (postRR c r (i : Int) (j : Int) bs.length false), .int .i64 (postRE c r (i : Int) (j : Int) bs.length false)]) (postRP c r (i : Int) (j : Int) bs false) (.returned (.tuple #[.int .i64 ((r.all.length : Int) + 1), .int .i64 0])) w3) := by
                obtain ⟨_, h2⟩ := HST.out
                refine Lib.hid ⟨by unfold postRR; rw [HEz.out, if_pos rfl], ?_⟩
                unfold postRP
                rw [HEz.out, if_pos rfl]
                exact h2
              go_ret2
              exact HE.out
          · rw [hu] at n0
            clear hdn hu
            go_enter Try.func79, Try.ntmps79
            go_upto_region 8 with (first | (go_at_call 78; refine HP.out.mono ?_; rintro _ _ ⟨rfl, rfl⟩; simp only [hJ'.out]) | (go_at_call 82; refine HWY.out.mono ?_; rintro _ w1 ⟨A, n, wc, rfl, hs⟩; have HS := Lib.hid hs; clear hs))
            have hX1 := HX.out.below HF.out HS.out.below
            obtain ⟨_, d1, d2, _⟩ := hX1.cell
            obtain ⟨_, s1⟩ := hX1.path hi16 hj16
            have HX1 := Lib.hid hX1
            clear hX1 c1 c2 n0 p0 p1
            by_cases hrm : c.room ≤ n
            · have hrI : (c.room : Int) ≤ (n : Int) := by omega
              have HE := Lib.hid (post_no (bs := bs) HH.out HS.out.below (HE0.out.trans (by unfold launchRE; rw [if_neg (by simp [HSH.out]), if_pos (by rw [← idxOf_length, ← HS.out.len]; exact hrm)])) (by decide))
              go_wp2
              go_ret2
              exact HE.out
            · have hrI : ¬ (c.room : Int) ≤ (n : Int) := by omega
              have HEz : Hid (postRE c r (i : Int) (j : Int) bs.length true = 0) := Lib.hid (HE0.out.trans (by unfold launchRE; rw [if_neg (by simp [HSH.out]), if_neg (by rw [← idxOf_length, ← HS.out.len]; exact hrm)]))
              obtain ⟨wd, hwd⟩ : ∃ wd, wd = w1.drew := ⟨_, rfl⟩
              have hbd : Below w.heap.size w wd := by rw [hwd]; exact below_drewN HS.out.below 1
              have t2 : wd.cell? ⟨D, 2, none⟩ = some (.int .i64 (r.now : Int)) := by rw [hwd]; exact d2
              have ts : wd.cell? ⟨D, 307 + i * 16 + j, none⟩ = some (.int .i64 (r.slow i j : Int)) := by rw [hwd]; exact s1
              have HPU : Hid (Calls Try.prog 86 #[.pointer (some ⟨D, 0, none⟩), .int .i64 (i : Int), .int .i64 (j : Int), .int .i64 ((r.now : Int) + (r.slow i j : Int)), .slice bA bs.length cap] wd (StepR wd F c D (.int .i64 ((r.all.length : Int) + 1)) (putR r i j (r.now + r.slow i j) bs))) := by
                have h1 := put_any (HH.out.below hbd) i j (r.now + r.slow i j) bA cap bs ((HR.out.below hbd).more hbd.size) hn HL.out
                rw [Int.natCast_add] at h1
                exact Lib.hid h1
              have hwr : IntKind.i64.wrap ((r.now : Int) + (r.slow i j : Int)) = (r.now : Int) + (r.slow i j : Int) := IntWalk.i64_in _ (by have := HSL.out; omega)
              have HWD := Lib.hid hwd
              have HBD := Lib.hid hbd
              clear hwd hbd d2 s1
              go_upto_region 10 with fail
              clear d1 hrI
              refine region_tail 17 (by kernel_rfl) (by kernel_rfl) ?_
              simp only [List.take_succ_cons, List.take_zero, List.drop_succ_cons, List.drop_zero]
              rw [← HWD.out]
              repeat still_step
              refine wpStill_nil ?_
              change wpList _ _ _ _ _ wd
              go_wp2_with (go_at_call 86; refine HPU.out.mono ?_; rintro _ w3 hst; have hv := hst.1; subst hv; have HST := Lib.hid (StepR.below HF.out HBD.out hst); clear hst)
              have HE : Hid (StepR w F c D (.tuple #[.int .i64 (postRR c r (i : Int) (j : Int) bs.length true), .int .i64 (postRE c r (i : Int) (j : Int) bs.length true)]) (postRP c r (i : Int) (j : Int) bs true) (.returned (.tuple #[.int .i64 ((r.all.length : Int) + 1), .int .i64 0])) w3) := by
                obtain ⟨_, h2⟩ := HST.out
                refine Lib.hid ⟨by unfold postRR; rw [HEz.out, if_pos rfl], ?_⟩
                unfold postRP
                rw [HEz.out, if_pos rfl]
                exact h2
              go_ret2
              exact HE.out
    · have HE := Lib.hid (post_no (bs := bs) (b := (j : Int)) (a := (i : Int)) (lives := lives) h (Below.refl _ _) (show _ = (1 : Int) by unfold postRE; rw [if_neg (fun e => hbl e.2)]) (by decide))
      have HJ := Lib.hid hJ
      have e1 : decide (((bs.length : Nat) : Int) > 40000) = true := by simp; omega
      have hbI : ((bs.length : Nat) : Int) > 40000 := by omega
      clear h hr hbl hJ
      go_enter Try.func79, Try.ntmps79
      go_wp2_with (go_at_call 78; refine HP.out.mono ?_; rintro _ _ ⟨rfl, rfl⟩; simp only [HJ.out])
      go_ret2
      exact HE.out
  · have HE := Lib.hid (post_no (bs := bs) (b := b) (a := a) (lives := lives) h (Below.refl _ _) (show _ = (1 : Int) by unfold postRE; rw [if_neg (by simp [hJ])]) (by decide))
    have HJ := Lib.hid hJ
    clear h hr hJ
    go_enter Try.func79, Try.ntmps79
    go_wp2_with (go_at_call 78; refine HP.out.mono ?_; rintro _ _ ⟨rfl, rfl⟩; simp only [HJ.out])
    go_ret2
    exact HE.out
end Go.Proofs.Ytgfhmfhhobhojaa
