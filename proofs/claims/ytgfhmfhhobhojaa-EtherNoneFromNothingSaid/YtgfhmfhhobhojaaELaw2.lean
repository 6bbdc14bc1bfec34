/-
  The ether statements' helper: nodes, on both networks.
-/
import Derived.Test.YtgfhmfhhobhojaaELaw1
namespace Go.Proofs.Ytgfhmfhhobhojaa
open Go.ChangeShapes Go.WideShapes Go.ChangeAt Go.RowKit
/-- Both networks, apart from one another. -/
structure Duo (w : World) (F1 F2 : Nat → Prop) (c : ECfg) (D K m : Nat) (p : PV) (r : RV) : Prop where
  pn : PNx w F1 c D p m
  rn : RNx w F2 c K r
  tw : TwinS c p r m
  ne : ∀ k, F1 k → ¬ F2 k
section
variable {w w0 w1 w2 w' : World} {F1 F2 : Nat → Prop} {c : ECfg} {D K m : Nat} {p : PV} {r : RV}
theorem Duo.below (h : Duo w F1 F2 c D K m p r) (hb : Below w.heap.size w w') : Duo w' F1 F2 c D K m p r := ⟨h.pn.below hb, h.rn.below hb, h.tw, h.ne⟩
theorem Duo.more (h : Duo w F1 F2 c D K m p r) : Duo w F1 F2 c D K (m + 1) p r := ⟨h.pn.mono (Nat.le_succ m), h.rn, h.tw.more (Nat.le_succ m), h.ne⟩
/-- What a step on both leaves. -/
structure Next (w : World) (F1 F2 : Nat → Prop) (c : ECfg) (D K m : Nat) (p' : PV) (r' : RV) (G1 G2 : Nat → Prop) (w' : World) : Prop where
  duo : Duo w' G1 G2 c D K m p' r'
  g1 : ∀ k, G1 k → F1 k ∨ w.heap.size ≤ k
  g2 : ∀ k, G2 k → F2 k ∨ w.heap.size ≤ k
  chg : Chg (fun k => F1 k ∨ F2 k) w w'
def NextR (w : World) (F1 F2 : Nat → Prop) (c : ECfg) (D K m : Nat) (e : Ending) (w' : World) : Prop := e = .returned (.bool true) ∧ ∃ p' r' G1 G2, Next w F1 F2 c D K (m + 1) p' r' G1 G2 w'
theorem Next.same (h : Duo w F1 F2 c D K m p r) (hb : Below w.heap.size w w') : Next w F1 F2 c D K (m + 1) p r F1 F2 w' :=
  ⟨(h.below hb).more, fun _ h => .inl h, fun _ h => .inl h, Chg.of_below hb _⟩
theorem Next.below {p' : PV} {r' : RV} {G1 G2 : Nat → Prop} (h : Next w F1 F2 c D K m p' r' G1 G2 w1) (hb : Below w1.heap.size w1 w') : Next w F1 F2 c D K m p' r' G1 G2 w' :=
  ⟨h.duo.below hb, h.g1, h.g2, h.chg.trans (Chg.of_below hb _)⟩
theorem Next.ahead {p' : PV} {r' : RV} {G1 G2 : Nat → Prop} (hb : Below w.heap.size w w0) (h : Next w0 F1 F2 c D K m p' r' G1 G2 w1) : Next w F1 F2 c D K m p' r' G1 G2 w1 :=
  ⟨h.duo, fun k hk => (h.g1 k hk).imp id fun h => Nat.le_trans hb.size h, fun k hk => (h.g2 k hk).imp id fun h => Nat.le_trans hb.size h, (Chg.of_below hb _).trans h.chg⟩
/-- A step of the program's network, the document's stands still. -/
theorem Duo.stepP (h : Duo w F1 F2 c D K m p r) {v : Value} {p' : PV} {m' : Nat} {e : Ending} (hs : StepP w F1 c D m' v p' e w1) : RNx w1 F2 c K r ∧ ∃ G1, PNx w1 G1 c D p' m' ∧ (∀ k, G1 k → F1 k ∨ w.heap.size ≤ k) ∧ (∀ k, G1 k → ¬ F2 k) ∧ Chg F1 w w1 := by
  obtain ⟨_, G1, h1, h2, h3⟩ := hs
  refine ⟨h.rn.chg h3 fun k hk h1 => h.ne k h1 hk, G1, h1, h2, fun k hk hk2 => ?_, h3⟩
  rcases h2 k hk with h4 | h4
  · exact h.ne k h4 hk2
  · have := h.rn.1 k hk2; omega
/-- A step of both. -/
theorem Duo.both (h : Duo w F1 F2 c D K m p r) {v v' : Value} {p' : PV} {r' : RV} {m' : Nat} {e e' : Ending} (hs : StepP w F1 c D m' v p' e w1) (hr : StepR w1 F2 c K v' r' e' w2) (hm : m' ≤ m + 1) (ht : TwinS c p' r' (m + 1)) : ∃ G1 G2, Next w F1 F2 c D K (m + 1) p' r' G1 G2 w2 := by
  obtain ⟨hR, G1, h1, h2, h3, h4⟩ := h.stepP hs
  obtain ⟨_, G2, k1, k2, k3⟩ := hr
  refine ⟨G1, G2, ⟨⟨(h1.mono hm).chg k3 fun k hk hk2 => h3 k hk hk2, k1, ht, fun k hk hk2 => ?_⟩, h2, fun k hk => (k2 k hk).imp id fun h => Nat.le_trans h4.size h, ?_⟩⟩
  · rcases k2 k hk2 with h5 | h5
    · exact h3 k hk h5
    · have := h1.1 k hk; omega
  · exact (h4.mono fun _ _ h => .inl h).trans (k3.mono fun _ _ h => .inr h)
end
set_option maxRecDepth 100000 in
set_option maxHeartbeats 3200000 in
theorem nodes_1 {w : World} {F1 F2 : Nat → Prop} {c : ECfg} {D K m : Nat} {p : PV} {r : RV} (hc : c.Ok) (h : Duo w F1 F2 c D K m p r) (_hm : m ≤ 16777216) (a b n : Int) (BA SA : Option Addr) (bn bc sn sc : Nat) : Calls Try.prog 52 #[.pointer (some ⟨D, 0, none⟩), .pointer (some ⟨K, 0, none⟩), .agg #[.int .i64 1, .int .i64 a, .int .i64 b, .int .i64 n, .slice BA bn bc, .slice SA sn sc]] w (NextR w F1 F2 c D K m) := by
  have hb0 := one_box' w (.cells #[.int .i64 1, .int .i64 a, .int .i64 b, .int .i64 n, .slice BA bn bc, .slice SA sn sc] 33)
  have hE := Blk.new w 33 #[.int .i64 1, .int .i64 a, .int .i64 b, .int .i64 n, .slice BA bn bc, .slice SA sn sc]
  obtain ⟨w0, hw0⟩ : ∃ w0, w0 = w.alloc (.cells #[.int .i64 1, .int .i64 a, .int .i64 b, .int .i64 n, .slice BA bn bc, .slice SA sn sc] 33) := ⟨_, rfl⟩
  rw [← hw0] at hb0 hE
  have h0 := h.below hb0
  have HW0 := Lib.hid hw0
  have HB0 := Lib.hid hb0
  have HH := Lib.hid h
  have HH0 := Lib.hid h0
  have HE := Lib.hid hE
  have x0 : w0.cell? ⟨w.heap.size, 0, none⟩ = some (.int .i64 1) := hE.cell 0
  have x1 : w0.cell? ⟨w.heap.size, 1, none⟩ = some (.int .i64 a) := hE.cell 1
  have HNW : Hid (¬ F1 w.heap.size) := Lib.hid fun hf => Nat.lt_irrefl _ (h.pn.1 _ hf)
  have HP := Lib.hid fun (W : World) (hW : Below w0.heap.size w0 W) => (Up_any (h0.pn.below hW) a).mono fun _ _ (h : _ ∧ _) => And.intro h.1 h.2.symm
  have HR := Lib.hid fun (W : World) (hW : Below w0.heap.size w0 W) => (RUp_any hc (h0.rn.below hW) a).mono fun _ _ (h : _ ∧ _) => And.intro h.1 h.2.symm
  rw [← h.tw.upA a] at HR
  generalize upA c p.down a = y at HP HR
  have ey : (y == y) = true := by simp
  clear hw0 hb0 hE h0 h
  go_enter Try.func52, Try.ntmps52
  go_upto_region 1 with fail
  rw [← HW0.out]

  go_upto_region 3 with fail
  go_quiet ((first
    | (go_at_call 18; exact Calls.quiet_of_same (HP.out _ (below_drewN (Below.refl _ _) _)))
    | (go_at_call 62; exact Calls.quiet_of_same (HR.out _ (below_drewN (Below.refl _ _) _)))))
  have HN := Lib.hid (Next.same HH.out (below_drewN HB0.out nq))
  go_wp2
  go_ret
  exact ⟨rfl, p, r, F1, F2, HN.out⟩
set_option maxRecDepth 100000 in
set_option maxHeartbeats 3200000 in
theorem nodes_2 {w : World} {F1 F2 : Nat → Prop} {c : ECfg} {D K m : Nat} {p : PV} {r : RV} (hc : c.Ok) (h : Duo w F1 F2 c D K m p r) (_hm : m ≤ 16777216) (a b n : Int) (BA SA : Option Addr) (bn bc sn sc : Nat) : Calls Try.prog 52 #[.pointer (some ⟨D, 0, none⟩), .pointer (some ⟨K, 0, none⟩), .agg #[.int .i64 2, .int .i64 a, .int .i64 b, .int .i64 n, .slice BA bn bc, .slice SA sn sc]] w (NextR w F1 F2 c D K m) := by
  have hb0 := one_box' w (.cells #[.int .i64 2, .int .i64 a, .int .i64 b, .int .i64 n, .slice BA bn bc, .slice SA sn sc] 33)
  have hE := Blk.new w 33 #[.int .i64 2, .int .i64 a, .int .i64 b, .int .i64 n, .slice BA bn bc, .slice SA sn sc]
  obtain ⟨w0, hw0⟩ : ∃ w0, w0 = w.alloc (.cells #[.int .i64 2, .int .i64 a, .int .i64 b, .int .i64 n, .slice BA bn bc, .slice SA sn sc] 33) := ⟨_, rfl⟩
  rw [← hw0] at hb0 hE
  have h0 := h.below hb0
  have HW0 := Lib.hid hw0
  have HB0 := Lib.hid hb0
  have HH := Lib.hid h
  have HH0 := Lib.hid h0
  have HE := Lib.hid hE
  have x0 : w0.cell? ⟨w.heap.size, 0, none⟩ = some (.int .i64 2) := hE.cell 0
  have x1 : w0.cell? ⟨w.heap.size, 1, none⟩ = some (.int .i64 a) := hE.cell 1
  have HNW : Hid (¬ F1 w.heap.size) := Lib.hid fun hf => Nat.lt_irrefl _ (h.pn.1 _ hf)
  have HP := Lib.hid fun (W : World) (hW : Below w0.heap.size w0 W) => (Inc_any (h0.pn.below hW) a).mono fun _ _ (h : _ ∧ _) => And.intro h.1 h.2.symm
  have HR := Lib.hid fun (W : World) (hW : Below w0.heap.size w0 W) => (RInc_any hc (h0.rn.below hW) a).mono fun _ _ (h : _ ∧ _) => And.intro h.1 h.2.symm
  rw [← h.tw.incA a] at HR
  generalize numA c p.inc a = y at HP HR
  have ey : (y == y) = true := by simp
  clear hw0 hb0 hE h0 h
  go_enter Try.func52, Try.ntmps52
  go_upto_region 1 with fail
  rw [← HW0.out]

  go_upto_region 5 with fail
  go_quiet ((first
    | (go_at_call 32; exact Calls.quiet_of_same (HP.out _ (below_drewN (Below.refl _ _) _)))
    | (go_at_call 63; exact Calls.quiet_of_same (HR.out _ (below_drewN (Below.refl _ _) _)))))
  have HN := Lib.hid (Next.same HH.out (below_drewN HB0.out nq))
  go_wp2
  go_ret
  exact ⟨rfl, p, r, F1, F2, HN.out⟩
set_option maxRecDepth 100000 in
set_option maxHeartbeats 3200000 in
theorem nodes_3 {w : World} {F1 F2 : Nat → Prop} {c : ECfg} {D K m : Nat} {p : PV} {r : RV} (hc : c.Ok) (h : Duo w F1 F2 c D K m p r) (_hm : m ≤ 16777216) (a b n : Int) (BA SA : Option Addr) (bn bc sn sc : Nat) : Calls Try.prog 52 #[.pointer (some ⟨D, 0, none⟩), .pointer (some ⟨K, 0, none⟩), .agg #[.int .i64 3, .int .i64 a, .int .i64 b, .int .i64 n, .slice BA bn bc, .slice SA sn sc]] w (NextR w F1 F2 c D K m) := by
  have hb0 := one_box' w (.cells #[.int .i64 3, .int .i64 a, .int .i64 b, .int .i64 n, .slice BA bn bc, .slice SA sn sc] 33)
  have hE := Blk.new w 33 #[.int .i64 3, .int .i64 a, .int .i64 b, .int .i64 n, .slice BA bn bc, .slice SA sn sc]
  obtain ⟨w0, hw0⟩ : ∃ w0, w0 = w.alloc (.cells #[.int .i64 3, .int .i64 a, .int .i64 b, .int .i64 n, .slice BA bn bc, .slice SA sn sc] 33) := ⟨_, rfl⟩
  rw [← hw0] at hb0 hE
  have h0 := h.below hb0
  have HW0 := Lib.hid hw0
  have HB0 := Lib.hid hb0
  have HH := Lib.hid h
  have HH0 := Lib.hid h0
  have HE := Lib.hid hE
  have x0 : w0.cell? ⟨w.heap.size, 0, none⟩ = some (.int .i64 3) := hE.cell 0
  have x1 : w0.cell? ⟨w.heap.size, 1, none⟩ = some (.int .i64 a) := hE.cell 1
  have HNW : Hid (¬ F1 w.heap.size) := Lib.hid fun hf => Nat.lt_irrefl _ (h.pn.1 _ hf)
  have HP := Lib.hid fun (W : World) (hW : Below w0.heap.size w0 W) => (Ticks_any (h0.pn.below hW) a).mono fun _ _ (h : _ ∧ _) => And.intro h.1 h.2.symm
  have HR := Lib.hid fun (W : World) (hW : Below w0.heap.size w0 W) => (RTicks_any hc (h0.rn.below hW) a).mono fun _ _ (h : _ ∧ _) => And.intro h.1 h.2.symm
  rw [← h.tw.tkA a] at HR
  generalize numA c p.tk a = y at HP HR
  have ey : (y == y) = true := by simp
  clear hw0 hb0 hE h0 h
  go_enter Try.func52, Try.ntmps52
  go_upto_region 1 with fail
  rw [← HW0.out]

  go_upto_region 7 with fail
  go_quiet ((first
    | (go_at_call 56; exact Calls.quiet_of_same (HP.out _ (below_drewN (Below.refl _ _) _)))
    | (go_at_call 64; exact Calls.quiet_of_same (HR.out _ (below_drewN (Below.refl _ _) _)))))
  have HN := Lib.hid (Next.same HH.out (below_drewN HB0.out nq))
  go_wp2
  go_ret
  exact ⟨rfl, p, r, F1, F2, HN.out⟩
set_option maxRecDepth 100000 in
set_option maxHeartbeats 3200000 in
theorem nodes_4 {w : World} {F1 F2 : Nat → Prop} {c : ECfg} {D K m : Nat} {p : PV} {r : RV} (_hc : c.Ok) (h : Duo w F1 F2 c D K m p r) (_hm : m ≤ 16777216) (a b n : Int) (BA SA : Option Addr) (bn bc sn sc : Nat) : Calls Try.prog 52 #[.pointer (some ⟨D, 0, none⟩), .pointer (some ⟨K, 0, none⟩), .agg #[.int .i64 4, .int .i64 a, .int .i64 b, .int .i64 n, .slice BA bn bc, .slice SA sn sc]] w (NextR w F1 F2 c D K m) := by
  have hb0 := one_box' w (.cells #[.int .i64 4, .int .i64 a, .int .i64 b, .int .i64 n, .slice BA bn bc, .slice SA sn sc] 33)
  have hE := Blk.new w 33 #[.int .i64 4, .int .i64 a, .int .i64 b, .int .i64 n, .slice BA bn bc, .slice SA sn sc]
  obtain ⟨w0, hw0⟩ : ∃ w0, w0 = w.alloc (.cells #[.int .i64 4, .int .i64 a, .int .i64 b, .int .i64 n, .slice BA bn bc, .slice SA sn sc] 33) := ⟨_, rfl⟩
  rw [← hw0] at hb0 hE
  have h0 := h.below hb0
  have HW0 := Lib.hid hw0
  have HB0 := Lib.hid hb0
  have HH := Lib.hid h
  have HH0 := Lib.hid h0
  have HE := Lib.hid hE
  have x0 : w0.cell? ⟨w.heap.size, 0, none⟩ = some (.int .i64 4) := hE.cell 0
  have x1 : w0.cell? ⟨w.heap.size, 1, none⟩ = some (.int .i64 a) := hE.cell 1
  have HNW : Hid (¬ F1 w.heap.size) := Lib.hid fun hf => Nat.lt_irrefl _ (h.pn.1 _ hf)
  have HP := Lib.hid (Clock_any h0.pn)
  have HR := Lib.hid (RClock_any h0.rn)
  rw [← h.tw.clk] at HR
  have ey : ((p.clock : Int) == (p.clock : Int)) = true := by simp
  clear hw0 hb0 hE h0 h

  go_enter Try.func52, Try.ntmps52
  go_upto_region 1 with fail
  rw [← HW0.out]

  go_wp2_with (first
    | (go_at_call 24; refine HP.out.mono ?_; rintro _ _ ⟨rfl, rfl⟩)
    | (go_at_call 65; refine HR.out.mono ?_; rintro _ _ ⟨rfl, rfl⟩))
  go_ret
  exact ⟨rfl, p, r, F1, F2, Next.same HH.out HB0.out⟩
set_option maxRecDepth 100000 in
set_option maxHeartbeats 3200000 in
theorem nodes_5 {w : World} {F1 F2 : Nat → Prop} {c : ECfg} {D K m : Nat} {p : PV} {r : RV} (hc : c.Ok) (h : Duo w F1 F2 c D K m p r) (hm : m ≤ 16777216) (a b n : Int) (BA SA : Option Addr) (bn bc sn sc : Nat) : Calls Try.prog 52 #[.pointer (some ⟨D, 0, none⟩), .pointer (some ⟨K, 0, none⟩), .agg #[.int .i64 5, .int .i64 a, .int .i64 b, .int .i64 n, .slice BA bn bc, .slice SA sn sc]] w (NextR w F1 F2 c D K m) := by
  have hb0 := one_box' w (.cells #[.int .i64 5, .int .i64 a, .int .i64 b, .int .i64 n, .slice BA bn bc, .slice SA sn sc] 33)
  have hE := Blk.new w 33 #[.int .i64 5, .int .i64 a, .int .i64 b, .int .i64 n, .slice BA bn bc, .slice SA sn sc]
  obtain ⟨w0, hw0⟩ : ∃ w0, w0 = w.alloc (.cells #[.int .i64 5, .int .i64 a, .int .i64 b, .int .i64 n, .slice BA bn bc, .slice SA sn sc] 33) := ⟨_, rfl⟩
  rw [← hw0] at hb0 hE
  have h0 := h.below hb0
  have HW0 := Lib.hid hw0
  have HB0 := Lib.hid hb0
  have HH := Lib.hid h
  have HH0 := Lib.hid h0
  have HE := Lib.hid hE
  have x0 : w0.cell? ⟨w.heap.size, 0, none⟩ = some (.int .i64 5) := hE.cell 0
  have x1 : w0.cell? ⟨w.heap.size, 1, none⟩ = some (.int .i64 a) := hE.cell 1
  have HNW : Hid (¬ F1 w.heap.size) := Lib.hid fun hf => Nat.lt_irrefl _ (h.pn.1 _ hf)
  have HP := Lib.hid (Tick_any h0.pn a (fun k _ => by have := (h.tw.tkm k).1; omega))
  have HR := Lib.hid fun (W : World) (hW : RNx W F2 c K r) => RTick_any hc hW a (fun k _ => by have := (h.tw.tkm k).2; omega)
  have HT := Lib.hid (h.tw.tick a)
  have HTE := Lib.hid (h.tw.tick_e a)
  obtain ⟨y, hy⟩ : ∃ y, y = Tick_e c p.down a := ⟨_, rfl⟩
  have HY : Hid (0 ≤ y ∧ y ≤ 100) := Lib.hid (by rw [hy]; unfold Tick_e; split <;> (try split) <;> omega)
  obtain ⟨z, hz⟩ : ∃ z, z = Tick_r c p.down p.tk a := ⟨_, rfl⟩
  simp only [← h.tw.tick_e a, ← (h.tw.tick a).1, ← hy, ← hz] at HP HR
  have ey : (y == y) = true := by simp
  have ez : (z == z) = true := by simp
  clear hy hz
  clear hw0 hb0 hE h0 h
  go_enter Try.func52, Try.ntmps52
  go_upto_region 1 with fail
  rw [← HW0.out]
  go_wp2_with (first
    | (go_at_call 36; refine HP.out.mono ?_; rintro _ w1 hst; have hv := hst.1; subst hv; have HST := Lib.hid hst; have hX1 := HE.out.chg hst.2.choose_spec.2.2 HNW.out; have x1' : w1.cell? ⟨w.heap.size, 1, none⟩ = some (.int .i64 a) := hX1.cell 1; have HR1 := Lib.hid (HR.out w1 (HH0.out.stepP hst).1); clear hst hX1 x0 x1)
    | (go_at_call 66; refine HR1.out.mono ?_; rintro _ w2 hst2; have hv2 := hst2.1; subst hv2; have HST2 := Lib.hid hst2; clear hst2 x1')
    | (go_at_call 30; refine (num_any _ _ (by have := HY.out; omega) (by have := HY.out; omega)).mono ?_; rintro _ _ ⟨rfl, rfl⟩))
  go_ret
  obtain ⟨G1, G2, hn⟩ := HH0.out.both HST.out HST2.out (Nat.le_succ m) (HT.out.2)
  exact ⟨rfl, _, _, G1, G2, hn.ahead HB0.out⟩
set_option maxRecDepth 100000 in
set_option maxHeartbeats 3200000 in
theorem nodes_6 {w : World} {F1 F2 : Nat → Prop} {c : ECfg} {D K m : Nat} {p : PV} {r : RV} (hc : c.Ok) (h : Duo w F1 F2 c D K m p r) (_hm : m ≤ 16777216) (a b n : Int) (BA SA : Option Addr) (bn bc sn sc : Nat) : Calls Try.prog 52 #[.pointer (some ⟨D, 0, none⟩), .pointer (some ⟨K, 0, none⟩), .agg #[.int .i64 6, .int .i64 a, .int .i64 b, .int .i64 n, .slice BA bn bc, .slice SA sn sc]] w (NextR w F1 F2 c D K m) := by
  have hb0 := one_box' w (.cells #[.int .i64 6, .int .i64 a, .int .i64 b, .int .i64 n, .slice BA bn bc, .slice SA sn sc] 33)
  have hE := Blk.new w 33 #[.int .i64 6, .int .i64 a, .int .i64 b, .int .i64 n, .slice BA bn bc, .slice SA sn sc]
  obtain ⟨w0, hw0⟩ : ∃ w0, w0 = w.alloc (.cells #[.int .i64 6, .int .i64 a, .int .i64 b, .int .i64 n, .slice BA bn bc, .slice SA sn sc] 33) := ⟨_, rfl⟩
  rw [← hw0] at hb0 hE
  have h0 := h.below hb0
  have HW0 := Lib.hid hw0
  have HB0 := Lib.hid hb0
  have HH := Lib.hid h
  have HH0 := Lib.hid h0
  have HE := Lib.hid hE
  have x0 : w0.cell? ⟨w.heap.size, 0, none⟩ = some (.int .i64 6) := hE.cell 0
  have x1 : w0.cell? ⟨w.heap.size, 1, none⟩ = some (.int .i64 a) := hE.cell 1
  have HNW : Hid (¬ F1 w.heap.size) := Lib.hid fun hf => Nat.lt_irrefl _ (h.pn.1 _ hf)
  have HP := Lib.hid (Crash_any h0.pn a)
  have HR := Lib.hid fun (W : World) (hW : RNx W F2 c K r) => RCrash_any hc hW a
  have HT := Lib.hid (h.tw.crash a)
  obtain ⟨y, hy⟩ : ∃ y, y = Tick_e c p.down a := ⟨_, rfl⟩
  have HY : Hid (0 ≤ y ∧ y ≤ 100) := Lib.hid (by rw [hy]; unfold Tick_e; split <;> (try split) <;> omega)
  simp only [← h.tw.tick_e a, ← hy] at HP HR
  have ey : (y == y) = true := by simp
  clear hy
  clear hw0 hb0 hE h0 h
  go_enter Try.func52, Try.ntmps52
  go_upto_region 1 with fail
  rw [← HW0.out]
  go_wp2_with (first
    | (go_at_call 37; refine HP.out.mono ?_; rintro _ w1 hst; have hv := hst.1; subst hv; have HST := Lib.hid hst; have hX1 := HE.out.chg hst.2.choose_spec.2.2 HNW.out; have x1' : w1.cell? ⟨w.heap.size, 1, none⟩ = some (.int .i64 a) := hX1.cell 1; have HR1 := Lib.hid (HR.out w1 (HH0.out.stepP hst).1); clear hst hX1 x0 x1)
    | (go_at_call 67; refine HR1.out.mono ?_; rintro _ w2 hst2; have hv2 := hst2.1; subst hv2; have HST2 := Lib.hid hst2; clear hst2 x1')
    | (go_at_call 30; refine (num_any _ _ (by have := HY.out; omega) (by have := HY.out; omega)).mono ?_; rintro _ _ ⟨rfl, rfl⟩))
  go_ret
  obtain ⟨G1, G2, hn⟩ := HH0.out.both HST.out HST2.out (Nat.le_succ m) (HT.out)
  exact ⟨rfl, _, _, G1, G2, hn.ahead HB0.out⟩
set_option maxRecDepth 100000 in
set_option maxHeartbeats 3200000 in
theorem nodes_7 {w : World} {F1 F2 : Nat → Prop} {c : ECfg} {D K m : Nat} {p : PV} {r : RV} (hc : c.Ok) (h : Duo w F1 F2 c D K m p r) (hm : m ≤ 16777216) (a b n : Int) (BA SA : Option Addr) (bn bc sn sc : Nat) : Calls Try.prog 52 #[.pointer (some ⟨D, 0, none⟩), .pointer (some ⟨K, 0, none⟩), .agg #[.int .i64 7, .int .i64 a, .int .i64 b, .int .i64 n, .slice BA bn bc, .slice SA sn sc]] w (NextR w F1 F2 c D K m) := by
  have hb0 := one_box' w (.cells #[.int .i64 7, .int .i64 a, .int .i64 b, .int .i64 n, .slice BA bn bc, .slice SA sn sc] 33)
  have hE := Blk.new w 33 #[.int .i64 7, .int .i64 a, .int .i64 b, .int .i64 n, .slice BA bn bc, .slice SA sn sc]
  obtain ⟨w0, hw0⟩ : ∃ w0, w0 = w.alloc (.cells #[.int .i64 7, .int .i64 a, .int .i64 b, .int .i64 n, .slice BA bn bc, .slice SA sn sc] 33) := ⟨_, rfl⟩
  rw [← hw0] at hb0 hE
  have h0 := h.below hb0
  have HW0 := Lib.hid hw0
  have HB0 := Lib.hid hb0
  have HH := Lib.hid h
  have HH0 := Lib.hid h0
  have HE := Lib.hid hE
  have x0 : w0.cell? ⟨w.heap.size, 0, none⟩ = some (.int .i64 7) := hE.cell 0
  have x1 : w0.cell? ⟨w.heap.size, 1, none⟩ = some (.int .i64 a) := hE.cell 1
  have HNW : Hid (¬ F1 w.heap.size) := Lib.hid fun hf => Nat.lt_irrefl _ (h.pn.1 _ hf)
  have HP := Lib.hid (Restart_any h0.pn a (fun k _ => by have := (h.tw.incm k).1; omega))
  have HR := Lib.hid fun (W : World) (hW : RNx W F2 c K r) => RRestart_any hc hW a (fun k _ => by have := (h.tw.incm k).2; omega)
  have HT := Lib.hid (h.tw.rest a)
  obtain ⟨y, hy⟩ : ∃ y, y = Rest_e c p.down a := ⟨_, rfl⟩
  have HY : Hid (0 ≤ y ∧ y ≤ 100) := Lib.hid (by rw [hy]; unfold Rest_e; split <;> (try split) <;> omega)
  obtain ⟨z, hz⟩ : ∃ z, z = Rest_r c p.down p.inc a := ⟨_, rfl⟩
  simp only [← h.tw.rest_e a, ← (h.tw.rest a).1, ← hy, ← hz] at HP HR
  have ey : (y == y) = true := by simp
  have ez : (z == z) = true := by simp
  clear hy hz
  clear hw0 hb0 hE h0 h
  go_enter Try.func52, Try.ntmps52
  go_upto_region 1 with fail
  rw [← HW0.out]
  go_wp2_with (first
    | (go_at_call 17; refine HP.out.mono ?_; rintro _ w1 hst; have hv := hst.1; subst hv; have HST := Lib.hid hst; have hX1 := HE.out.chg hst.2.choose_spec.2.2 HNW.out; have x1' : w1.cell? ⟨w.heap.size, 1, none⟩ = some (.int .i64 a) := hX1.cell 1; have HR1 := Lib.hid (HR.out w1 (HH0.out.stepP hst).1); clear hst hX1 x0 x1)
    | (go_at_call 68; refine HR1.out.mono ?_; rintro _ w2 hst2; have hv2 := hst2.1; subst hv2; have HST2 := Lib.hid hst2; clear hst2 x1')
    | (go_at_call 30; refine (num_any _ _ (by have := HY.out; omega) (by have := HY.out; omega)).mono ?_; rintro _ _ ⟨rfl, rfl⟩))
  go_ret
  obtain ⟨G1, G2, hn⟩ := HH0.out.both HST.out HST2.out (Nat.le_succ m) (HT.out.2)
  exact ⟨rfl, _, _, G1, G2, hn.ahead HB0.out⟩
end Go.Proofs.Ytgfhmfhhobhojaa
