/-
  The document's network: Up, Inc, Ticks, Clock, Tick, Crash, Restart, Open, Delay.
-/
import Derived.Test.YtgfhmfhhobhojaaERef
namespace Go.Proofs.Ytgfhmfhhobhojaa
open Go.RowKit
variable {w : World} {F : Nat → Prop} {c : ECfg} {D : Nat} {r : RV}
def StepR (w : World) (F : Nat → Prop) (c : ECfg) (D : Nat) (v : Value) (r' : RV) (e : Ending) (w' : World) : Prop :=
  e = .returned v ∧ ∃ F', RNx w' F' c D r' ∧ (∀ k, F' k → F k ∨ w.heap.size ≤ k) ∧ Chg F w w'
theorem StepR.same {v : Value} (h : RNx w F c D r) {w' : World} (hb : Below w.heap.size w w') : StepR w F c D v r (.returned v) w' := ⟨rfl, F, h.below hb, fun _ h => .inl h, Chg.of_below hb F⟩
theorem StepR.of {v : Value} {r' : RV} {w' : World} {u : Value} {X : List Pkt} (hF : ∀ k, F k → k < w.heap.size) (hc : Chg F w w') (h : RN w' F c D r' u X) : StepR w F c D v r' (.returned v) w' :=
  ⟨rfl, F, ⟨fun k hk => Nat.lt_of_lt_of_le (hF k hk) hc.size, u, X, h⟩, fun _ h => .inl h, hc⟩
set_option maxRecDepth 100000 in
theorem node_any (h : RNx w F c D r) (q : Int) : Calls Try.prog 77 #[.pointer (some ⟨D, 0, none⟩), .int .i64 q] w fun e w' => e = .returned (.bool (hasB c q)) ∧ w = w' := by
  obtain ⟨_, v, X, h⟩ := h
  obtain ⟨c0, c1, c2, c3⟩ := h.cell
  clear h c1 c2 c3
  by_cases h0 : q ≥ 0
  · by_cases h1 : q < (c.n : Int)
    · go_enter Try.func77, Try.ntmps77
      go_wp2
      go_ret
      exact ⟨ret_bool (by simp [hasB]; omega), rfl⟩
    · go_enter Try.func77, Try.ntmps77
      go_wp2
      go_ret
      exact ⟨ret_bool (by simp [hasB]; omega), rfl⟩
  · go_enter Try.func77, Try.ntmps77
    go_wp2
    go_ret
    exact ⟨ret_bool (by simp [hasB]; omega), rfl⟩
set_option maxRecDepth 100000 in
theorem path_any (h : RNx w F c D r) (a b : Int) : Calls Try.prog 78 #[.pointer (some ⟨D, 0, none⟩), .int .i64 a, .int .i64 b] w fun e w' => e = .returned (.bool (joinB c a b)) ∧ w = w' := by
  have HH := Lib.hid fun (q : Int) => node_any h q
  clear h
  cases h1 : hasB c a with
  | false =>
    have HE : Hid (joinB c a b = false) := Lib.hid (by simp [joinB, h1])
    go_enter Try.func78, Try.ntmps78
    go_wp2_with ((go_at_call 77; refine (HH.out _).mono ?_; rintro _ _ ⟨rfl, rfl⟩))
    go_ret
    exact ⟨ret_bool HE.out.symm, rfl⟩
  | true =>
    cases h2 : hasB c b with
    | false =>
      have HE : Hid (joinB c a b = false) := Lib.hid (by simp [joinB, h2])
      go_enter Try.func78, Try.ntmps78
      go_wp2_with ((go_at_call 77; refine (HH.out _).mono ?_; rintro _ _ ⟨rfl, rfl⟩))
      go_ret
      exact ⟨ret_bool HE.out.symm, rfl⟩
    | true =>
      have HE : Hid (joinB c a b = (a != b)) := Lib.hid (by simp [joinB, h1, h2])
      go_enter Try.func78, Try.ntmps78
      go_wp2_with ((go_at_call 77; refine (HH.out _).mono ?_; rintro _ _ ⟨rfl, rfl⟩))
      go_ret
      exact ⟨ret_bool HE.out.symm, rfl⟩
def upR (c : ECfg) (up : Nat → Bool) (q : Int) : Bool := hasB c q && up q.toNat
set_option maxRecDepth 100000 in
theorem RUp_any (hc : c.Ok) (h : RNx w F c D r) (q : Int) : Calls Try.prog 62 #[.pointer (some ⟨D, 0, none⟩), .int .i64 q] w fun e w' => e = .returned (.bool (upR c r.up q)) ∧ w = w' := by
  have HH := Lib.hid (node_any h q)
  rcases hasB_cases c q with ⟨k, rfl, hk, hb⟩ | hb
  · obtain ⟨_, v, X, h⟩ := h
    obtain ⟨n0, n1, n2⟩ := h.node (show k < 16 by have := hc.2.1; omega)
    have hkI : (k : Int) < 16 := by have := hc.2.1; omega
    have HE : Hid (hasB c (k : Int) = true) := Lib.hid hb
    clear h
    go_enter Try.func62, Try.ntmps62
    go_wp2_with ((go_at_call 77; refine HH.out.mono ?_; rintro _ _ ⟨rfl, rfl⟩))
    go_ret
    exact ⟨ret_bool (by simp [upR, HE.out]), rfl⟩
  · have HE : Hid (hasB c q = false) := Lib.hid hb
    clear h
    go_enter Try.func62, Try.ntmps62
    go_wp2_with ((go_at_call 77; refine HH.out.mono ?_; rintro _ _ ⟨rfl, rfl⟩))
    go_ret
    exact ⟨ret_bool (by simp [upR, HE.out]), rfl⟩
set_option maxRecDepth 100000 in
theorem RInc_any (hc : c.Ok) (h : RNx w F c D r) (q : Int) : Calls Try.prog 63 #[.pointer (some ⟨D, 0, none⟩), .int .i64 q] w fun e w' => e = .returned (.int .i64 (numA c r.inc q)) ∧ w = w' := by
  have HH := Lib.hid (node_any h q)
  rcases hasB_cases c q with ⟨k, rfl, hk, hb⟩ | hb
  · obtain ⟨_, v, X, h⟩ := h
    obtain ⟨n0, n1, n2⟩ := h.node (show k < 16 by have := hc.2.1; omega)
    have hkI : (k : Int) < 16 := by have := hc.2.1; omega
    have HE : Hid (hasB c (k : Int) = true) := Lib.hid hb
    clear h
    go_enter Try.func63, Try.ntmps63
    go_wp2_with ((go_at_call 77; refine HH.out.mono ?_; rintro _ _ ⟨rfl, rfl⟩))
    go_ret
    exact ⟨ret_int (by simp [numA, HE.out]), rfl⟩
  · have HE : Hid (hasB c q = false) := Lib.hid hb
    clear h
    go_enter Try.func63, Try.ntmps63
    go_wp2_with ((go_at_call 77; refine HH.out.mono ?_; rintro _ _ ⟨rfl, rfl⟩))
    go_ret
    exact ⟨ret_int (by simp [numA, HE.out]), rfl⟩
set_option maxRecDepth 100000 in
theorem RTicks_any (hc : c.Ok) (h : RNx w F c D r) (q : Int) : Calls Try.prog 64 #[.pointer (some ⟨D, 0, none⟩), .int .i64 q] w fun e w' => e = .returned (.int .i64 (numA c r.tk q)) ∧ w = w' := by
  have HH := Lib.hid (node_any h q)
  rcases hasB_cases c q with ⟨k, rfl, hk, hb⟩ | hb
  · obtain ⟨_, v, X, h⟩ := h
    obtain ⟨n0, n1, n2⟩ := h.node (show k < 16 by have := hc.2.1; omega)
    have hkI : (k : Int) < 16 := by have := hc.2.1; omega
    have HE : Hid (hasB c (k : Int) = true) := Lib.hid hb
    clear h
    go_enter Try.func64, Try.ntmps64
    go_wp2_with ((go_at_call 77; refine HH.out.mono ?_; rintro _ _ ⟨rfl, rfl⟩))
    go_ret
    exact ⟨ret_int (by simp [numA, HE.out]), rfl⟩
  · have HE : Hid (hasB c q = false) := Lib.hid hb
    clear h
    go_enter Try.func64, Try.ntmps64
    go_wp2_with ((go_at_call 77; refine HH.out.mono ?_; rintro _ _ ⟨rfl, rfl⟩))
    go_ret
    exact ⟨ret_int (by simp [numA, HE.out]), rfl⟩
set_option maxRecDepth 100000 in
theorem RClock_any (h : RNx w F c D r) : Calls Try.prog 65 #[.pointer (some ⟨D, 0, none⟩)] w fun e w' => e = .returned (.int .i64 (r.now : Int)) ∧ w = w' := by
  obtain ⟨_, v, X, h⟩ := h
  obtain ⟨c0, c1, c2, c3⟩ := h.cell
  clear h c0 c1 c3
  go_enter Try.func65, Try.ntmps65
  go_wp2
  go_ret
  exact ⟨rfl, rfl⟩
def RTick_e (c : ECfg) (up : Nat → Bool) (q : Int) : Int := if hasB c q = true then (if up q.toNat = true then 0 else 32) else 1
def RTick_r (c : ECfg) (up : Nat → Bool) (tk : Nat → Nat) (q : Int) : Int := if RTick_e c up q = 0 then (tk q.toNat : Int) + 1 else 0
def tickR (c : ECfg) (r : RV) (q : Int) : RV := if RTick_e c r.up q = 0 then { r with tk := updN r.tk q.toNat (r.tk q.toNat + 1) } else r
def crashR (c : ECfg) (r : RV) (q : Int) : RV := if RTick_e c r.up q = 0 then { r with up := updB r.up q.toNat false } else r
def RRest_e (c : ECfg) (up : Nat → Bool) (q : Int) : Int := if hasB c q = true then (if up q.toNat = true then 33 else 0) else 1
def RRest_r (c : ECfg) (up : Nat → Bool) (inc : Nat → Nat) (q : Int) : Int := if RRest_e c up q = 0 then (inc q.toNat : Int) + 1 else 0
def restR (c : ECfg) (r : RV) (q : Int) : RV := if RRest_e c r.up q = 0 then { r with up := updB r.up q.toNat true, inc := updN r.inc q.toNat (r.inc q.toNat + 1), tk := updN r.tk q.toNat 0 } else r
set_option maxRecDepth 100000 in
set_option maxHeartbeats 1600000 in
theorem RTick_any (hc : c.Ok) (h : RNx w F c D r) (q : Int) (ht : ∀ k, k < 16 → r.tk k < 9223372036854775807) : Calls Try.prog 66 #[.pointer (some ⟨D, 0, none⟩), .int .i64 q] w (StepR w F c D (.tuple #[.int .i64 (RTick_r c r.up r.tk q), .int .i64 (RTick_e c r.up q)]) (tickR c r q)) := by
  have HH := Lib.hid (node_any h q)
  have HX := Lib.hid h
  rcases hasB_cases c q with ⟨k, rfl, hk, hb⟩ | hb
  · obtain ⟨hF, v, X, h⟩ := h
    have hk16 : k < 16 := by have := hc.2.1; omega
    obtain ⟨n0, n1, n2⟩ := h.node hk16
    have hkI : (k : Int) < 16 := by omega
    have HE : Hid (hasB c (k : Int) = true) := Lib.hid hb
    cases hd : r.up k with
    | false =>
      rw [hd] at n0
      have HD : Hid (r.up k = false) := Lib.hid hd
      clear h hd
      go_enter Try.func66, Try.ntmps66
      go_wp2_with ((go_at_call 77; refine HH.out.mono ?_; rintro _ _ ⟨rfl, rfl⟩))
      go_ret2
      have h0 : RTick_e c r.up (k : Int) = 32 := by simp [RTick_e, HE.out, HD.out]
      simp only [RTick_r, tickR, if_false, Int.reduceEq, h0]
      exact StepR.same HX.out (Below.refl _ _)
    | true =>
      rw [hd] at n0
      have HD : Hid (r.up k = true) := Lib.hid hd
      have h0 : Hid (RTick_e c r.up (k : Int) = 0) := Lib.hid (by simp [RTick_e, HE.out, HD.out])
      have hw1 : IntKind.i64.wrap ((r.tk k : Int) + 1) = (r.tk k : Int) + 1 := IntWalk.i64_in _ (by have := ht k hk16; omega)
      obtain ⟨wd, hwd⟩ : ∃ wd, wd = w.drew := ⟨_, rfl⟩
      have hd1 : RN wd F c D r v X := by rw [hwd]; exact h.chg ((Chg.refl (fun _ => False) w).drewN 1) fun _ _ h => h
      have hbd : Chg F w wd := by rw [hwd]; exact (Chg.refl _ _).drewN 1
      obtain ⟨d0, d1, d2⟩ := hd1.node hk16
      have hf : wd.frozen? ⟨D, 35 + k, none⟩ = false := hd1.blk.frozen _
      have hN := hd1.setD (i := 35 + k) (u := .int .i64 ((r.tk k : Int) + 1)) (r' := { r with tk := updN r.tk k (r.tk k + 1) }) (by rw [show ((r.tk k : Int) + 1) = ((r.tk k + 1 : Nat) : Int) by simp, net_tk c r v hk16]) rfl
      obtain ⟨w3, hw3⟩ : ∃ w3, w3 = wd.setCell ⟨D, 35 + k, none⟩ (.int .i64 ((r.tk k : Int) + 1)) := ⟨_, rfl⟩
      have hC : Chg F w w3 := by rw [hw3]; exact hbd.setCell (.inl h.fd) _
      rw [← hw3] at hN
      have l2 : w3.cell? ⟨D, 35 + k, none⟩ = some (.int .i64 ((r.tk k : Int) + 1)) := by rw [(hN.node hk16).2.2]; simp [updN]
      have HS : Hid (StepR w F c D (.tuple #[.int .i64 ((r.tk k : Int) + 1), .int .i64 0]) { r with tk := updN r.tk k (r.tk k + 1) } (.returned (.tuple #[.int .i64 ((r.tk k : Int) + 1), .int .i64 0])) w3) := Lib.hid (StepR.of hF hC hN)
      have HWD := Lib.hid hwd
      have HW3 := Lib.hid hw3
      clear h hd hd1 hwd hw3 hbd hN hC d0 d1
      go_enter Try.func66, Try.ntmps66
      go_upto_region 5 with ((go_at_call 77; refine HH.out.mono ?_; rintro _ _ ⟨rfl, rfl⟩))
      refine region_tail 10 (by kernel_rfl) (by kernel_rfl) ?_
      simp only [List.take_succ_cons, List.take_zero, List.drop_succ_cons, List.drop_zero]
      rw [← HWD.out]
      repeat still_step
      refine wpStill_nil ?_
      change wpList _ _ _ _ _ wd
      go_upto_region 6 with fail
      rw [← HW3.out]
      go_wp2
      go_ret2
      simp only [RTick_r, tickR, h0.out, if_true, Int.toNat_natCast]
      exact HS.out
  · have HE : Hid (hasB c q = false) := Lib.hid hb
    clear h
    go_enter Try.func66, Try.ntmps66
    go_wp2_with ((go_at_call 77; refine HH.out.mono ?_; rintro _ _ ⟨rfl, rfl⟩))
    go_ret2
    have h0 : RTick_e c r.up q = 1 := by simp [RTick_e, HE.out]
    simp only [RTick_r, tickR, if_false, Int.reduceEq, h0]
    exact StepR.same HX.out (Below.refl _ _)
set_option maxRecDepth 100000 in
set_option maxHeartbeats 1600000 in
theorem RCrash_any (hc : c.Ok) (h : RNx w F c D r) (q : Int) : Calls Try.prog 67 #[.pointer (some ⟨D, 0, none⟩), .int .i64 q] w (StepR w F c D (.int .i64 (RTick_e c r.up q)) (crashR c r q)) := by
  have HH := Lib.hid (node_any h q)
  have HX := Lib.hid h
  rcases hasB_cases c q with ⟨k, rfl, hk, hb⟩ | hb
  · obtain ⟨hF, v, X, h⟩ := h
    have hk16 : k < 16 := by have := hc.2.1; omega
    obtain ⟨n0, n1, n2⟩ := h.node hk16
    have hkI : (k : Int) < 16 := by omega
    have HE : Hid (hasB c (k : Int) = true) := Lib.hid hb
    cases hd : r.up k with
    | false =>
      rw [hd] at n0
      have HD : Hid (r.up k = false) := Lib.hid hd
      clear h hd
      go_enter Try.func67, Try.ntmps67
      go_wp2_with ((go_at_call 77; refine HH.out.mono ?_; rintro _ _ ⟨rfl, rfl⟩))
      go_ret
      have h0 : RTick_e c r.up (k : Int) = 32 := by simp [RTick_e, HE.out, HD.out]
      simp only [crashR, if_false, Int.reduceEq, h0]
      exact StepR.same HX.out (Below.refl _ _)
    | true =>
      rw [hd] at n0
      have HD : Hid (r.up k = true) := Lib.hid hd
      have h0 : Hid (RTick_e c r.up (k : Int) = 0) := Lib.hid (by simp [RTick_e, HE.out, HD.out])
      have hf : w.frozen? ⟨D, 3 + k, none⟩ = false := h.blk.frozen _
      have hN := h.setD (i := 3 + k) (u := .bool false) (r' := { r with up := updB r.up k false }) (by rw [net_up c r v hk16]) rfl
      have HS : Hid (StepR w F c D (.int .i64 0) { r with up := updB r.up k false } (.returned (.int .i64 0)) (w.setCell ⟨D, 3 + k, none⟩ (.bool false))) := Lib.hid (StepR.of hF ((Chg.refl _ _).setCell (.inl h.fd) _) hN)
      clear h hd hN
      go_enter Try.func67, Try.ntmps67
      go_wp2_with ((go_at_call 77; refine HH.out.mono ?_; rintro _ _ ⟨rfl, rfl⟩))
      go_ret
      simp only [crashR, h0.out, if_true, Int.toNat_natCast]
      exact HS.out
  · have HE : Hid (hasB c q = false) := Lib.hid hb
    clear h
    go_enter Try.func67, Try.ntmps67
    go_wp2_with ((go_at_call 77; refine HH.out.mono ?_; rintro _ _ ⟨rfl, rfl⟩))
    go_ret
    have h0 : RTick_e c r.up q = 1 := by simp [RTick_e, HE.out]
    simp only [crashR, if_false, Int.reduceEq, h0]
    exact StepR.same HX.out (Below.refl _ _)
set_option maxRecDepth 100000 in
set_option maxHeartbeats 1600000 in
theorem RRestart_any (hc : c.Ok) (h : RNx w F c D r) (q : Int) (ht : ∀ k, k < 16 → r.inc k < 9223372036854775807) : Calls Try.prog 68 #[.pointer (some ⟨D, 0, none⟩), .int .i64 q] w (StepR w F c D (.tuple #[.int .i64 (RRest_r c r.up r.inc q), .int .i64 (RRest_e c r.up q)]) (restR c r q)) := by
  have HH := Lib.hid (node_any h q)
  have HX := Lib.hid h
  rcases hasB_cases c q with ⟨k, rfl, hk, hb⟩ | hb
  · obtain ⟨hF, v, X, h⟩ := h
    have hk16 : k < 16 := by have := hc.2.1; omega
    obtain ⟨n0, n1, n2⟩ := h.node hk16
    have hkI : (k : Int) < 16 := by omega
    have HE : Hid (hasB c (k : Int) = true) := Lib.hid hb
    cases hd : r.up k with
    | true =>
      rw [hd] at n0
      have HD : Hid (r.up k = true) := Lib.hid hd
      clear h hd
      go_enter Try.func68, Try.ntmps68
      go_wp2_with ((go_at_call 77; refine HH.out.mono ?_; rintro _ _ ⟨rfl, rfl⟩))
      go_ret2
      have h0 : RRest_e c r.up (k : Int) = 33 := by simp [RRest_e, HE.out, HD.out]
      simp only [RRest_r, restR, if_false, Int.reduceEq, h0]
      exact StepR.same HX.out (Below.refl _ _)
    | false =>
      rw [hd] at n0
      have HD : Hid (r.up k = false) := Lib.hid hd
      have h0 : Hid (RRest_e c r.up (k : Int) = 0) := Lib.hid (by simp [RRest_e, HE.out, HD.out])
      have hw1 : IntKind.i64.wrap ((r.inc k : Int) + 1) = (r.inc k : Int) + 1 := IntWalk.i64_in _ (by have := ht k hk16; omega)
      have f0 : w.frozen? ⟨D, 3 + k, none⟩ = false := h.blk.frozen _
      have h1 := h.setD (i := 3 + k) (u := .bool true) (r' := { r with up := updB r.up k true }) (by rw [net_up c r v hk16]) rfl
      obtain ⟨wa, hwa⟩ : ∃ wa, wa = w.setCell ⟨D, 3 + k, none⟩ (.bool true) := ⟨_, rfl⟩
      have hCa : Chg F w wa := by rw [hwa]; exact (Chg.refl _ _).setCell (.inl h.fd) _
      rw [← hwa] at h1
      obtain ⟨wd, hwd⟩ : ∃ wd, wd = wa.drew := ⟨_, rfl⟩
      have hd1 : RN wd F c D { r with up := updB r.up k true } v X := by rw [hwd]; exact h1.chg ((Chg.refl (fun _ => False) wa).drewN 1) fun _ _ h => h
      have hbd : Chg F w wd := by rw [hwd]; exact hCa.drewN 1
      obtain ⟨d0, d1, d2⟩ := hd1.node hk16
      have hf : wd.frozen? ⟨D, 19 + k, none⟩ = false := hd1.blk.frozen _
      have hN := hd1.setD (i := 19 + k) (u := .int .i64 ((r.inc k : Int) + 1)) (r' := { r with up := updB r.up k true, inc := updN r.inc k (r.inc k + 1) }) (by rw [show ((r.inc k : Int) + 1) = ((r.inc k + 1 : Nat) : Int) by simp, net_inc c _ v hk16]) rfl
      obtain ⟨w3, hw3⟩ : ∃ w3, w3 = wd.setCell ⟨D, 19 + k, none⟩ (.int .i64 ((r.inc k : Int) + 1)) := ⟨_, rfl⟩
      have hC : Chg F w w3 := by rw [hw3]; exact hbd.setCell (.inl h.fd) _
      rw [← hw3] at hN
      have i2 : ∃ x, w3.cell? ⟨D, 35 + k, none⟩ = some (.int .i64 x) := ⟨_, (hN.node hk16).2.2⟩
      obtain ⟨x2, i2⟩ := i2
      have if2 : w3.frozen? ⟨D, 35 + k, none⟩ = false := hN.blk.frozen _
      have hM := hN.setD (i := 35 + k) (u := .int .i64 0) (r' := { r with up := updB r.up k true, inc := updN r.inc k (r.inc k + 1), tk := updN r.tk k 0 }) (by rw [show (0 : Int) = ((0 : Nat) : Int) by rfl, net_tk c _ v hk16]) rfl
      obtain ⟨w4, hw4⟩ : ∃ w4, w4 = w3.setCell ⟨D, 35 + k, none⟩ (.int .i64 0) := ⟨_, rfl⟩
      have hC4 : Chg F w w4 := by rw [hw4]; exact hC.setCell (.inl h.fd) _
      rw [← hw4] at hM
      have l1 : w4.cell? ⟨D, 19 + k, none⟩ = some (.int .i64 ((r.inc k : Int) + 1)) := by rw [(hM.node hk16).2.1]; simp [updN]
      have HS : Hid (StepR w F c D (.tuple #[.int .i64 ((r.inc k : Int) + 1), .int .i64 0]) { r with up := updB r.up k true, inc := updN r.inc k (r.inc k + 1), tk := updN r.tk k 0 } (.returned (.tuple #[.int .i64 ((r.inc k : Int) + 1), .int .i64 0])) w4) := Lib.hid (StepR.of hF hC4 hM)
      have HWA := Lib.hid hwa
      have HWD := Lib.hid hwd
      have HW3 := Lib.hid hw3
      have HW4 := Lib.hid hw4
      clear h h1 hd hd1 hwa hwd hw3 hw4 hCa hbd hN hM hC hC4 d0 d2
      go_enter Try.func68, Try.ntmps68
      go_upto_region 6 with ((go_at_call 77; refine HH.out.mono ?_; rintro _ _ ⟨rfl, rfl⟩))
      rw [← HWA.out]
      refine region_tail 10 (by kernel_rfl) (by kernel_rfl) ?_
      simp only [List.take_succ_cons, List.take_zero, List.drop_succ_cons, List.drop_zero]
      rw [← HWD.out]
      repeat still_step
      refine wpStill_nil ?_
      change wpList _ _ _ _ _ wd
      go_upto_region 7 with fail
      rw [← HW3.out]
      go_upto_region 8 with fail
      rw [← HW4.out]
      go_wp2
      go_ret2
      simp only [RRest_r, restR, h0.out, if_true, Int.toNat_natCast]
      exact HS.out
  · have HE : Hid (hasB c q = false) := Lib.hid hb
    clear h
    go_enter Try.func68, Try.ntmps68
    go_wp2_with ((go_at_call 77; refine HH.out.mono ?_; rintro _ _ ⟨rfl, rfl⟩))
    go_ret2
    have h0 : RRest_e c r.up q = 1 := by simp [RRest_e, HE.out]
    simp only [RRest_r, restR, if_false, Int.reduceEq, h0]
    exact StepR.same HX.out (Below.refl _ _)
def ropenB (c : ECfg) (shut : Nat → Nat → Bool) (a b : Int) : Bool := joinB c a b && !shut a.toNat b.toNat
def rdelayA (c : ECfg) (slow : Nat → Nat → Nat) (a b : Int) : Int := if joinB c a b = true then (slow a.toNat b.toNat : Int) else 0
set_option maxRecDepth 100000 in
theorem ROpen_any (hc : c.Ok) (h : RNx w F c D r) (a b : Int) : Calls Try.prog 69 #[.pointer (some ⟨D, 0, none⟩), .int .i64 a, .int .i64 b] w fun e w' => e = .returned (.bool (ropenB c r.shut a b)) ∧ w = w' := by
  have HH := Lib.hid (path_any h a b)
  rcases joinB_cases c a b with ⟨i, j, rfl, rfl, hi, hj, hij, hJ⟩ | hJ
  · obtain ⟨_, v, X, h⟩ := h
    obtain ⟨n0, n1⟩ := h.path (show i < 16 by have := hc.2.1; omega) (show j < 16 by have := hc.2.1; omega)
    have hiI : (i : Int) < 16 := by have := hc.2.1; omega
    have hjI : (j : Int) < 16 := by have := hc.2.1; omega
    have HE : Hid (joinB c (i : Int) (j : Int) = true) := Lib.hid hJ
    clear h
    go_enter Try.func69, Try.ntmps69
    go_wp2_with ((go_at_call 78; refine HH.out.mono ?_; rintro _ _ ⟨rfl, rfl⟩))
    go_ret
    exact ⟨ret_bool (by simp [ropenB, HE.out]), rfl⟩
  · have HE : Hid (joinB c a b = false) := Lib.hid hJ
    clear h
    go_enter Try.func69, Try.ntmps69
    go_wp2_with ((go_at_call 78; refine HH.out.mono ?_; rintro _ _ ⟨rfl, rfl⟩))
    go_ret
    exact ⟨ret_bool (by simp [ropenB, HE.out]), rfl⟩
set_option maxRecDepth 100000 in
theorem RDelay_any (hc : c.Ok) (h : RNx w F c D r) (a b : Int) : Calls Try.prog 70 #[.pointer (some ⟨D, 0, none⟩), .int .i64 a, .int .i64 b] w fun e w' => e = .returned (.int .i64 (rdelayA c r.slow a b)) ∧ w = w' := by
  have HH := Lib.hid (path_any h a b)
  rcases joinB_cases c a b with ⟨i, j, rfl, rfl, hi, hj, hij, hJ⟩ | hJ
  · obtain ⟨_, v, X, h⟩ := h
    obtain ⟨n0, n1⟩ := h.path (show i < 16 by have := hc.2.1; omega) (show j < 16 by have := hc.2.1; omega)
    have hiI : (i : Int) < 16 := by have := hc.2.1; omega
    have hjI : (j : Int) < 16 := by have := hc.2.1; omega
    have HE : Hid (joinB c (i : Int) (j : Int) = true) := Lib.hid hJ
    clear h
    go_enter Try.func70, Try.ntmps70
    go_wp2_with ((go_at_call 78; refine HH.out.mono ?_; rintro _ _ ⟨rfl, rfl⟩))
    go_ret
    exact ⟨ret_int (by simp [rdelayA, HE.out]), rfl⟩
  · have HE : Hid (joinB c a b = false) := Lib.hid hJ
    clear h
    go_enter Try.func70, Try.ntmps70
    go_wp2_with ((go_at_call 78; refine HH.out.mono ?_; rintro _ _ ⟨rfl, rfl⟩))
    go_ret
    exact ⟨ret_int (by simp [rdelayA, HE.out]), rfl⟩
end Go.Proofs.Ytgfhmfhhobhojaa
