/-
  The ether statements' helper: packets, on both networks: Open, Delay, Round, Flights.
-/
import Derived.Test.YtgfhmfhhobhojaaELaw2
namespace Go.Proofs.Ytgfhmfhhobhojaa
open Go.ChangeShapes Go.WideShapes Go.ChangeAt Go.RowKit
set_option maxRecDepth 100000 in
set_option maxHeartbeats 3200000 in
theorem packets_8 {w : World} {F1 F2 : Nat → Prop} {c : ECfg} {D K m : Nat} {p : PV} {r : RV} (hc : c.Ok) (h : Duo w F1 F2 c D K m p r) (hm : m ≤ 16777216) (a b n : Int) (BA SA : Option Addr) (bn bc sn sc : Nat) : Calls Try.prog 53 #[.pointer (some ⟨D, 0, none⟩), .pointer (some ⟨K, 0, none⟩), .agg #[.int .i64 8, .int .i64 a, .int .i64 b, .int .i64 n, .slice BA bn bc, .slice SA sn sc]] w (NextR w F1 F2 c D K m) := by
  have hb0 := one_box' w (.cells #[.int .i64 8, .int .i64 a, .int .i64 b, .int .i64 n, .slice BA bn bc, .slice SA sn sc] 33)
  have hE := Blk.new w 33 #[.int .i64 8, .int .i64 a, .int .i64 b, .int .i64 n, .slice BA bn bc, .slice SA sn sc]
  obtain ⟨w0, hw0⟩ : ∃ w0, w0 = w.alloc (.cells #[.int .i64 8, .int .i64 a, .int .i64 b, .int .i64 n, .slice BA bn bc, .slice SA sn sc] 33) := ⟨_, rfl⟩
  rw [← hw0] at hb0 hE
  have h0 := h.below hb0
  have HW0 := Lib.hid hw0
  have HB0 := Lib.hid hb0
  have HH := Lib.hid h
  have HH0 := Lib.hid h0
  have HE := Lib.hid hE
  obtain ⟨hfp, hfr⟩ : Fine p m ∧ RFine r := by
    rcases h.tw.fine (by omega) (Nat.le_refl m) with h1 | h1
    · exact h1
    · exact absurd hc h1
  have x0 : w0.cell? ⟨w.heap.size, 0, none⟩ = some (.int .i64 8) := hE.cell 0
  have x1 : w0.cell? ⟨w.heap.size, 1, none⟩ = some (.int .i64 a) := hE.cell 1
  have x2 : w0.cell? ⟨w.heap.size, 2, none⟩ = some (.int .i64 b) := hE.cell 2
  have HP := Lib.hid (Open_any hc (h0.pn.below (below_drewN (Below.refl _ _) 1)) a b)
  have HR := Lib.hid fun (W : World) (hW : Below w0.heap.size w0 W) => ROpen_any hc (h0.rn.below hW) a b
  rw [← h.tw.openA a b] at HR
  generalize openB c p.shut a b = y at HP HR
  have ey : (y == y) = true := by simp
  have HC : Hid (∀ W, Below w0.heap.size w0 W → W.cell? ⟨w.heap.size, 1, none⟩ = some (.int .i64 a) ∧ W.cell? ⟨w.heap.size, 2, none⟩ = some (.int .i64 b)) := Lib.hid fun W hW => ⟨(HE.out.over hW).cell 1, (HE.out.over hW).cell 2⟩
  have hx0 := HC.out w0.drew (below_drewN (Below.refl _ _) 1)
  clear hw0 hb0 hE h0 h hfp hfr
  go_enter Try.func53, Try.ntmps53
  go_upto_region 1 with fail
  rw [← HW0.out]

  go_upto_region 3 with fail
  go_region_held3 (fun w' => w'.cell? ⟨w.heap.size, 1, none⟩ = some (.int .i64 a) ∧ w'.cell? ⟨w.heap.size, 2, none⟩ = some (.int .i64 b)) ((first | exact hx1 | exact hx0)) ((first
    | (go_at_call 47; refine HP.out.mono ?_; rintro _ w1 ⟨rfl, hb1⟩; have hbw1 : Below w0.heap.size w0 w1 := (below_drewN (Below.refl _ _) 1).trans hb1; have hx1 := HC.out w1 hbw1)
    | (go_at_call 69; refine (HR.out w1 hbw1).mono ?_; rintro _ _ ⟨rfl, rfl⟩)))
  all_goals
    have HN := Lib.hid (Next.same HH.out (HB0.out.trans (hbw1.mono HB0.out.size)))
    clear hx0 hx1 hb1 hbw1
    go_wp2
    go_ret
    exact ⟨rfl, p, r, F1, F2, HN.out⟩
set_option maxRecDepth 100000 in
set_option maxHeartbeats 3200000 in
theorem packets_9 {w : World} {F1 F2 : Nat → Prop} {c : ECfg} {D K m : Nat} {p : PV} {r : RV} (hc : c.Ok) (h : Duo w F1 F2 c D K m p r) (hm : m ≤ 16777216) (a b n : Int) (BA SA : Option Addr) (bn bc sn sc : Nat) : Calls Try.prog 53 #[.pointer (some ⟨D, 0, none⟩), .pointer (some ⟨K, 0, none⟩), .agg #[.int .i64 9, .int .i64 a, .int .i64 b, .int .i64 n, .slice BA bn bc, .slice SA sn sc]] w (NextR w F1 F2 c D K m) := by
  have hb0 := one_box' w (.cells #[.int .i64 9, .int .i64 a, .int .i64 b, .int .i64 n, .slice BA bn bc, .slice SA sn sc] 33)
  have hE := Blk.new w 33 #[.int .i64 9, .int .i64 a, .int .i64 b, .int .i64 n, .slice BA bn bc, .slice SA sn sc]
  obtain ⟨w0, hw0⟩ : ∃ w0, w0 = w.alloc (.cells #[.int .i64 9, .int .i64 a, .int .i64 b, .int .i64 n, .slice BA bn bc, .slice SA sn sc] 33) := ⟨_, rfl⟩
  rw [← hw0] at hb0 hE
  have h0 := h.below hb0
  have HW0 := Lib.hid hw0
  have HB0 := Lib.hid hb0
  have HH := Lib.hid h
  have HH0 := Lib.hid h0
  have HE := Lib.hid hE
  obtain ⟨hfp, hfr⟩ : Fine p m ∧ RFine r := by
    rcases h.tw.fine (by omega) (Nat.le_refl m) with h1 | h1
    · exact h1
    · exact absurd hc h1
  have x0 : w0.cell? ⟨w.heap.size, 0, none⟩ = some (.int .i64 9) := hE.cell 0
  have x1 : w0.cell? ⟨w.heap.size, 1, none⟩ = some (.int .i64 a) := hE.cell 1
  have x2 : w0.cell? ⟨w.heap.size, 2, none⟩ = some (.int .i64 b) := hE.cell 2
  have HP := Lib.hid (Delay_any hc (h0.pn.below (below_drewN (Below.refl _ _) 1)) a b)
  have HR := Lib.hid fun (W : World) (hW : Below w0.heap.size w0 W) => RDelay_any hc (h0.rn.below hW) a b
  rw [← h.tw.delayA a b] at HR
  generalize delayA c p.slow a b = y at HP HR
  have ey : (y == y) = true := by simp
  have HC : Hid (∀ W, Below w0.heap.size w0 W → W.cell? ⟨w.heap.size, 1, none⟩ = some (.int .i64 a) ∧ W.cell? ⟨w.heap.size, 2, none⟩ = some (.int .i64 b)) := Lib.hid fun W hW => ⟨(HE.out.over hW).cell 1, (HE.out.over hW).cell 2⟩
  have hx0 := HC.out w0.drew (below_drewN (Below.refl _ _) 1)
  clear hw0 hb0 hE h0 h hfp hfr
  go_enter Try.func53, Try.ntmps53
  go_upto_region 1 with fail
  rw [← HW0.out]

  go_upto_region 5 with fail
  go_region_held3 (fun w' => w'.cell? ⟨w.heap.size, 1, none⟩ = some (.int .i64 a) ∧ w'.cell? ⟨w.heap.size, 2, none⟩ = some (.int .i64 b)) ((first | exact hx1 | exact hx0)) ((first
    | (go_at_call 57; refine HP.out.mono ?_; rintro _ w1 ⟨rfl, hb1⟩; have hbw1 : Below w0.heap.size w0 w1 := (below_drewN (Below.refl _ _) 1).trans hb1; have hx1 := HC.out w1 hbw1)
    | (go_at_call 70; refine (HR.out w1 hbw1).mono ?_; rintro _ _ ⟨rfl, rfl⟩)))
  all_goals
    have HN := Lib.hid (Next.same HH.out (HB0.out.trans (hbw1.mono HB0.out.size)))
    clear hx0 hx1 hb1 hbw1
    go_wp2
    go_ret
    exact ⟨rfl, p, r, F1, F2, HN.out⟩
set_option maxRecDepth 100000 in
set_option maxHeartbeats 3200000 in
theorem packets_11 {w : World} {F1 F2 : Nat → Prop} {c : ECfg} {D K m : Nat} {p : PV} {r : RV} (hc : c.Ok) (h : Duo w F1 F2 c D K m p r) (hm : m ≤ 16777216) (a b n : Int) (BA SA : Option Addr) (bn bc sn sc : Nat) : Calls Try.prog 53 #[.pointer (some ⟨D, 0, none⟩), .pointer (some ⟨K, 0, none⟩), .agg #[.int .i64 11, .int .i64 a, .int .i64 b, .int .i64 n, .slice BA bn bc, .slice SA sn sc]] w (NextR w F1 F2 c D K m) := by
  have hb0 := one_box' w (.cells #[.int .i64 11, .int .i64 a, .int .i64 b, .int .i64 n, .slice BA bn bc, .slice SA sn sc] 33)
  have hE := Blk.new w 33 #[.int .i64 11, .int .i64 a, .int .i64 b, .int .i64 n, .slice BA bn bc, .slice SA sn sc]
  obtain ⟨w0, hw0⟩ : ∃ w0, w0 = w.alloc (.cells #[.int .i64 11, .int .i64 a, .int .i64 b, .int .i64 n, .slice BA bn bc, .slice SA sn sc] 33) := ⟨_, rfl⟩
  rw [← hw0] at hb0 hE
  have h0 := h.below hb0
  have HW0 := Lib.hid hw0
  have HB0 := Lib.hid hb0
  have HH := Lib.hid h
  have HH0 := Lib.hid h0
  have HE := Lib.hid hE
  obtain ⟨hfp, hfr⟩ : Fine p m ∧ RFine r := by
    rcases h.tw.fine (by omega) (Nat.le_refl m) with h1 | h1
    · exact h1
    · exact absurd hc h1
  have x0 : w0.cell? ⟨w.heap.size, 0, none⟩ = some (.int .i64 11) := hE.cell 0
  have x1 : w0.cell? ⟨w.heap.size, 1, none⟩ = some (.int .i64 a) := hE.cell 1
  have x2 : w0.cell? ⟨w.heap.size, 2, none⟩ = some (.int .i64 b) := hE.cell 2
  have HP := Lib.hid (Round_any hc h0.pn hfp)
  have HR := Lib.hid fun (W : World) (hW : RNx W F2 c K r) => RRound_any hc hW hfr
  obtain ⟨hrl, hrt⟩ := h.tw.round
  have HRT := Lib.hid hrt
  have HRL := Lib.hid hrl
  have HLEN : Hid ((roundL c p).length ≤ 1099511627776) := Lib.hid (Nat.le_trans (List.length_filter_le _ _) hfp.way)
  clear hw0 hb0 hE h0 h hfp hfr hrl hrt

  go_enter Try.func53, Try.ntmps53
  go_upto_region 1 with fail
  rw [← HW0.out]

  go_upto_region 19 with (first
    | (go_at_call 21; refine HP.out.mono ?_; rintro _ w1 ⟨v1, G1, rfl, ⟨H1, hm1, ho1, hb1, hf1⟩, hp1, hg1, hc1⟩; obtain ⟨A1, cap1, rfl, _, _⟩ := own_shape ho1; have hst : StepP w0 F1 c D m (.slice A1 H1.length cap1) (roundP p) (.returned (.slice A1 H1.length cap1)) w1 := ⟨rfl, G1, hp1, hg1, hc1⟩; have HST := Lib.hid hst; have HR1 := Lib.hid (HR.out w1 (HH0.out.stepP hst).1); have HO1 := Lib.hid (And.intro hm1 (And.intro ho1 (And.intro hb1 hf1))); clear hst hm1 ho1 hb1 hf1 hp1 hg1 hc1)
    | (go_at_call 73; refine HR1.out.mono ?_; rintro _ w2 ⟨v2, m2, H2, rfl, ho2, hr2, hc2⟩; obtain ⟨A2, cap2, rfl, _, _⟩ := own_shape ho2.row; have hst2 : StepR w1 F2 c K (.slice A2 m2 cap2) (roundRP r) (.returned (.slice A2 m2 cap2)) w2 := ⟨rfl, F2, hr2, fun _ h => .inl h, hc2⟩; have HST2 := Lib.hid hst2; have HO2 := Lib.hid (And.intro ho2 hc2); clear hst2 ho2 hr2 hc2))
  have HLS : Hid (Calls Try.prog 58 #[.slice A1 H1.length cap1, .slice A2 m2 cap2] w2 fun e w' => e = .returned (.bool true) ∧ Below w2.heap.size w2 w') := by
    obtain ⟨hm1, ho1, hb1, hf1⟩ := HO1.out
    have hF2 : ∀ k, F2 k → k < w0.heap.size := HH0.out.rn.1
    have f1 : FlAt w2 A1 H1.length (roundL c p) := by
      rw [← hm1]
      refine FlAt.of_p (own_chg ho1 HO2.out.2 fun g hg hk => ?_) fun x hx => (hb1 x hx).chg HO2.out.2 (HH0.out.ne _ (hf1 x hx))
      have h1 := (own_block_lt ho1 hg).2.1
      have h2 := hF2 g hk
      omega
    have f2 : FlAt w2 A2 m2 (roundL c p) := by rw [HRL.out]; exact FlAt.of_r HO2.out.1
    exact Lib.hid (lists_yes A1 A2 H1.length m2 cap1 cap2 (roundL c p) f1 f2 (by rw [f1.len]; exact HLEN.out))
  clear x0 x1 x2
  go_wp2_with (go_at_call 58; refine HLS.out.mono ?_; rintro _ w3 ⟨rfl, hb3⟩; have HB3 := Lib.hid hb3; clear hb3)
  go_ret
  obtain ⟨G1, G2, hn⟩ := HH0.out.both HST.out HST2.out (Nat.le_succ m) HRT.out
  exact ⟨rfl, _, _, G1, G2, (hn.below HB3.out).ahead HB0.out⟩
set_option maxRecDepth 100000 in
set_option maxHeartbeats 3200000 in
theorem packets_13 {w : World} {F1 F2 : Nat → Prop} {c : ECfg} {D K m : Nat} {p : PV} {r : RV} (hc : c.Ok) (h : Duo w F1 F2 c D K m p r) (hm : m ≤ 16777216) (a b n : Int) (BA SA : Option Addr) (bn bc sn sc : Nat) : Calls Try.prog 53 #[.pointer (some ⟨D, 0, none⟩), .pointer (some ⟨K, 0, none⟩), .agg #[.int .i64 13, .int .i64 a, .int .i64 b, .int .i64 n, .slice BA bn bc, .slice SA sn sc]] w (NextR w F1 F2 c D K m) := by
  have hb0 := one_box' w (.cells #[.int .i64 13, .int .i64 a, .int .i64 b, .int .i64 n, .slice BA bn bc, .slice SA sn sc] 33)
  have hE := Blk.new w 33 #[.int .i64 13, .int .i64 a, .int .i64 b, .int .i64 n, .slice BA bn bc, .slice SA sn sc]
  obtain ⟨w0, hw0⟩ : ∃ w0, w0 = w.alloc (.cells #[.int .i64 13, .int .i64 a, .int .i64 b, .int .i64 n, .slice BA bn bc, .slice SA sn sc] 33) := ⟨_, rfl⟩
  rw [← hw0] at hb0 hE
  have h0 := h.below hb0
  have HW0 := Lib.hid hw0
  have HB0 := Lib.hid hb0
  have HH := Lib.hid h
  have HH0 := Lib.hid h0
  have HE := Lib.hid hE
  obtain ⟨hfp, hfr⟩ : Fine p m ∧ RFine r := by
    rcases h.tw.fine (by omega) (Nat.le_refl m) with h1 | h1
    · exact h1
    · exact absurd hc h1
  have x0 : w0.cell? ⟨w.heap.size, 0, none⟩ = some (.int .i64 13) := hE.cell 0
  have x1 : w0.cell? ⟨w.heap.size, 1, none⟩ = some (.int .i64 a) := hE.cell 1
  have x2 : w0.cell? ⟨w.heap.size, 2, none⟩ = some (.int .i64 b) := hE.cell 2
  have HP := Lib.hid (Flights_any h0.pn hfp)
  have HR := Lib.hid fun (W : World) (hW : RNx W F2 c K r) => RFlights_any hW hfr
  have HWY := Lib.hid h.tw.way
  have HLEN : Hid (p.way.length ≤ 1099511627776) := Lib.hid hfp.way
  clear hw0 hb0 hE h0 h hfp hfr

  go_enter Try.func53, Try.ntmps53
  go_upto_region 1 with fail
  rw [← HW0.out]

  go_upto_region 26 with (first
    | (go_at_call 23; refine HP.out.mono ?_; rintro _ w1 ⟨v1, rfl, hbb1, H1, hm1, ho1, hb1, hf1⟩; obtain ⟨A1, cap1, rfl, _, _⟩ := own_shape ho1; have HR1 := Lib.hid (HR.out w1 (HH0.out.rn.below hbb1)); have HO1 := Lib.hid (And.intro hm1 (And.intro ho1 hb1)); have HB1 := Lib.hid hbb1; clear hm1 ho1 hb1 hf1 hbb1)
    | (go_at_call 75; refine HR1.out.mono ?_; rintro _ w2 ⟨v2, m2, H2, rfl, ho2, hb2⟩; obtain ⟨A2, cap2, rfl, _, _⟩ := own_shape ho2.row; have HO2 := Lib.hid (And.intro ho2 hb2); clear ho2 hb2))
  have HLS : Hid (Calls Try.prog 58 #[.slice A1 H1.length cap1, .slice A2 m2 cap2] w2 fun e w' => e = .returned (.bool true) ∧ Below w2.heap.size w2 w') := by
    obtain ⟨hm1, ho1, hb1⟩ := HO1.out
    have f1 : FlAt w2 A1 H1.length p.way := by
      rw [← hm1]
      exact (FlAt.of_p ho1 hb1).below HO2.out.2
    have f2 : FlAt w2 A2 m2 p.way := by rw [HWY.out]; exact FlAt.of_r HO2.out.1
    exact Lib.hid (lists_yes A1 A2 H1.length m2 cap1 cap2 p.way f1 f2 (by rw [f1.len]; exact HLEN.out))
  clear x0 x1 x2
  go_wp2_with (go_at_call 58; refine HLS.out.mono ?_; rintro _ w3 ⟨rfl, hb3⟩; have HB3 := Lib.hid hb3; clear hb3)
  go_ret
  exact ⟨rfl, _, _, F1, F2, Next.same HH.out (HB0.out.trans ((HB1.out.trans ((HO2.out.2.trans (HB3.out.mono HO2.out.2.size)).mono HB1.out.size)).mono HB0.out.size))⟩
end Go.Proofs.Ytgfhmfhhobhojaa
