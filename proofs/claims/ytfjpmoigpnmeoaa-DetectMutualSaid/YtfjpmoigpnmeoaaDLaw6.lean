/-
  The statements' helpers made and all.
-/
import Derived.Test.YtfjpmoigpnmeoaaDLaw5
namespace Go.Proofs.Ytfjpmoigpnmeoaa
open Go.RowKit
variable {w : World} {c : Cfg} {D K : Nat} {F : Nat → Prop} {l : List Ev}

/-- A run's seven cells. -/
abbrev RunC (n s i b st lm : Int) (A : Option Addr) (m cap : Nat) : Array Value := #[.int .i64 n, .int .i64 s, .int .i64 i, .int .i64 b, .int .i64 st, .int .i64 lm, .slice A m cap]
def MadeP (w : World) (c : Cfg) (e : Ending) (w' : World) : Prop := ∃ D K F, e = .returned (.tuple #[.pointer (some ⟨D, 0, none⟩), .pointer (some ⟨K, 0, none⟩), .bool true]) ∧ Pair w' F c D K [] ∧ (∀ k, F k → w.heap.size ≤ k) ∧ Below w.heap.size w w'
set_option maxRecDepth 100000 in
set_option maxHeartbeats 3200000 in
theorem made_yes (hc : c.Ok) (A : Option Addr) (m cap : Nat) :
    Calls Try.prog 32 #[.agg #[.int .i64 (c.n : Int), .int .i64 (c.self : Int), .int .i64 c.inc, .int .i64 c.base, .int .i64 c.step, .int .i64 c.lim, .slice A m cap]] w (MadeP w c) := by
  have hb0 := one_box' w (.cells #[.int .i64 (c.n : Int), .int .i64 (c.self : Int), .int .i64 c.inc, .int .i64 c.base, .int .i64 c.step, .int .i64 c.lim, .slice A m cap] 27)
  have hO := Blk.new w 27 #[.int .i64 (c.n : Int), .int .i64 (c.self : Int), .int .i64 c.inc, .int .i64 c.base, .int .i64 c.step, .int .i64 c.lim, .slice A m cap]
  obtain ⟨w0, hw0⟩ : ∃ w0, w0 = w.alloc (.cells #[.int .i64 (c.n : Int), .int .i64 (c.self : Int), .int .i64 c.inc, .int .i64 c.base, .int .i64 c.step, .int .i64 c.lim, .slice A m cap] 27) := ⟨_, rfl⟩
  rw [← hw0] at hb0 hO
  have HW := Lib.hid hw0
  have hs0 := hb0.size
  have c0 : w0.cell? ⟨w.heap.size, 0, none⟩ = some (.int .i64 (c.n : Int)) := hO.cell 0
  have c1 : w0.cell? ⟨w.heap.size, 1, none⟩ = some (.int .i64 (c.self : Int)) := hO.cell 1
  have c2 : w0.cell? ⟨w.heap.size, 2, none⟩ = some (.int .i64 c.inc) := hO.cell 2
  have c3 : w0.cell? ⟨w.heap.size, 3, none⟩ = some (.int .i64 c.base) := hO.cell 3
  have c4 : w0.cell? ⟨w.heap.size, 4, none⟩ = some (.int .i64 c.step) := hO.cell 4
  have c5 : w0.cell? ⟨w.heap.size, 5, none⟩ = some (.int .i64 c.lim) := hO.cell 5
  have HO := Lib.hid hO
  clear hw0 hO
  go_enter Try.func32, Try.ntmps32
  go_upto_region 1 with fail
  rw [← HW.out]
  go_wp2_with fail
  refine (PNew_yes c hc w0).mono ?_
  rintro _ w1 ⟨D, rfl, ha, hb1⟩
  have hs1 := hb1.size
  have hO1 := HO.out.over hb1
  have HA := Lib.hid ha
  clear c0 c1 c2 c3 c4 c5 ha
  have c0 : w1.cell? ⟨w.heap.size, 0, none⟩ = some (.int .i64 (c.n : Int)) := hO1.cell 0
  have c1 : w1.cell? ⟨w.heap.size, 1, none⟩ = some (.int .i64 (c.self : Int)) := hO1.cell 1
  have c2 : w1.cell? ⟨w.heap.size, 2, none⟩ = some (.int .i64 c.inc) := hO1.cell 2
  have c3 : w1.cell? ⟨w.heap.size, 3, none⟩ = some (.int .i64 c.base) := hO1.cell 3
  have c4 : w1.cell? ⟨w.heap.size, 4, none⟩ = some (.int .i64 c.step) := hO1.cell 4
  have c5 : w1.cell? ⟨w.heap.size, 5, none⟩ = some (.int .i64 c.lim) := hO1.cell 5
  clear hO1
  go_wp2_with fail
  refine (RNew_yes c hc w1).mono ?_
  rintro _ w2 ⟨K, rfl, hk, hb2⟩
  have hs2 := hb2.size
  have HE : Hid (MadeP w c (.returned (.tuple #[.pointer (some ⟨D, 0, none⟩), .pointer (some ⟨K, 0, none⟩), .bool true])) w2) := by
    refine Lib.hid ⟨D, K, fun k => w.heap.size ≤ k ∧ k < w2.heap.size, rfl, ⟨_, _, HA.out.below hb2, hk, fun k h => ⟨by omega, by omega⟩, fun k h => ⟨by omega, by omega⟩, fun k h h' => by omega, fun k h => h.2⟩, fun k h => h.1, hb0.trans ((hb1.trans (hb2.mono hs1)).mono hs0)⟩
  clear hk c0 c1 c2 c3 c4 c5
  go_wp2_with (go_at_call 15; refine (num_any _ _ (by omega) (by omega)).mono ?_; rintro _ _ ⟨rfl, rfl⟩)
  go_ret3
  exact HE.out
set_option maxRecDepth 100000 in
set_option maxHeartbeats 3200000 in
theorem made_no (n s i b st lm : Int) (hno : ¬ NewOk n s i b st lm) (hn0 : -9223372036854775808 ≤ n) (hn1 : n ≤ 9223372036854775807) (A : Option Addr) (m cap : Nat) :
    Calls Try.prog 32 #[.agg #[.int .i64 n, .int .i64 s, .int .i64 i, .int .i64 b, .int .i64 st, .int .i64 lm, .slice A m cap]] w fun e w' => e = .returned (.tuple #[.pointer none, .pointer none, .bool true]) ∧ Below w.heap.size w w' := by
  have hb0 := one_box' w (.cells #[.int .i64 n, .int .i64 s, .int .i64 i, .int .i64 b, .int .i64 st, .int .i64 lm, .slice A m cap] 27)
  have HN := Lib.hid hno
  clear hno
  go_enter Try.func32, Try.ntmps32
  go_wp2_with fail
  refine (PNew_no n s i b st lm _ HN.out hn0 hn1).mono ?_
  rintro _ _ ⟨rfl, rfl⟩
  go_wp2_with fail
  refine (RNew_no n s i b st lm _ HN.out).mono ?_
  rintro _ _ ⟨rfl, rfl⟩
  go_wp2_with (go_at_call 15; refine (num_any _ _ (by omega) (by omega)).mono ?_; rintro _ _ ⟨rfl, rfl⟩)
  go_ret3
  exact ⟨rfl, hb0⟩
theorem RKnown_b {Fb : Nat → Prop} (hc : c.Ok) (hn : l.length < 3518437208883) (q : Int) (w0 : World) (h : RDx w0 Fb c K l) (w : World) (hk : Hid (Below w0.heap.size w0 w)) :
    Calls Try.prog 51 #[.pointer (some ⟨K, 0, none⟩), .int .i64 q] w fun e w' => e = .returned (.int .i64 (knownQ c (dOf c l) q)) ∧ Hid (Below w0.heap.size w0 w') := by
  obtain ⟨v', hR, hF, hl⟩ := (h.below hk.out).parts
  have hs := hk.out.size
  exact (RKnown_any hc hR hF hl hn q).mono fun _ _ ⟨h1, h2⟩ => ⟨h1, hk.out.trans (h2.mono hs)⟩
theorem RTimeout_b {Fb : Nat → Prop} (hc : c.Ok) (hn : l.length < 3518437208883) (q : Int) (w0 : World) (h : RDx w0 Fb c K l) (w : World) (hk : Hid (Below w0.heap.size w0 w)) :
    Calls Try.prog 52 #[.pointer (some ⟨K, 0, none⟩), .int .i64 q] w fun e w' => e = .returned (.int .i64 (timeoutQ c (dOf c l) q)) ∧ Hid (Below w0.heap.size w0 w') := by
  obtain ⟨v', hR, hF, hl⟩ := (h.below hk.out).parts
  have hs := hk.out.size
  exact (RTimeout_any hc hR hF hl hn q).mono fun _ _ ⟨h1, h2⟩ => ⟨h1, hk.out.trans (h2.mono hs)⟩
theorem RWrong_b {Fb : Nat → Prop} (hc : c.Ok) (hn : l.length < 3518437208883) (q : Int) (w0 : World) (h : RDx w0 Fb c K l) (w : World) (hk : Hid (Below w0.heap.size w0 w)) :
    Calls Try.prog 53 #[.pointer (some ⟨K, 0, none⟩), .int .i64 q] w fun e w' => e = .returned (.int .i64 (wrongQ c (dOf c l) q)) ∧ Hid (Below w0.heap.size w0 w') := by
  obtain ⟨v', hR, hF, hl⟩ := (h.below hk.out).parts
  have hs := hk.out.size
  exact (RWrong_any hc hR hF hl hn q).mono fun _ _ ⟨h1, h2⟩ => ⟨h1, hk.out.trans (h2.mono hs)⟩
theorem lst_len (hc : c.Ok) (kd : Int) : (lstOf kd c (dOf c l)).length ≤ 17 := by
  obtain ⟨_, h16, _⟩ := hc
  unfold lstOf
  have h1 : (hearsL c (dOf c l)).length = c.n := by simp [hearsL]
  have h2 : (estL c (dOf c l)).length = c.n := by simp [estL]
  have h3 := suspL_len c (dOf c l) c.n
  split
  · rw [List.length_cons]; omega
  · split
    · omega
    · split
      · omega
      · split
        · omega
        · simp
set_option maxRecDepth 100000 in
set_option maxHeartbeats 6400000 in
theorem all_any (hc : c.Ok) (h : Pair w F c D K l) (hn : l.length < 3518437208883) :
    Calls Try.prog 35 #[.pointer (some ⟨D, 0, none⟩), .pointer (some ⟨K, 0, none⟩), .int .i64 (c.n : Int)] w (AsksOk w) := by
  have h16 : c.n ≤ 16 := hc.2.1
  obtain ⟨Fa, Fb, ha, hb, _⟩ := h
  have HA := Lib.hid ha
  have HB := Lib.hid hb
  clear ha hb
  go_enter Try.func35, Try.ntmps35
  go_wp2_with fail
  go_loopw [7, 8, 9] (fun k _ _ wr => ∃ j : Nat, j ≤ 4 ∧ k = .int .i64 (4 + (j : Int)) ∧ Hid (Below w.heap.size w wr)) (fun k _ _ _ => 8 - (intOf k).toNat)
  case atStart => exact ⟨0, by omega, rfl, Lib.hid (Below.refl _ _)⟩
  case round =>
    obtain ⟨j, hj, rfl, hb⟩ := hrel
    by_cases hlt : j < 4
    · have hI : 4 + (j : Int) ≤ 7 := by omega
      have HL := Lib.hid (lists_any hc (HA.out.below hb.out) (HB.out.below hb.out) hn (4 + (j : Int)))
      have hll := lst_len (l := l) hc (4 + (j : Int))
      generalize lstOf (4 + (j : Int)) c (dOf c l) = L at *
      go_wp2_with fail
      refine HL.out.mono ?_
      rintro _ w1 ⟨A1, cap1, A2, cap2, rfl, ho1, ho2, hb1⟩
      have hs1 := hb1.size
      have HR := Lib.hid (same_yes A1 A2 L.length cap1 cap2 L w1 (Rd.of_own ho1) (Rd.of_own ho2) (by omega))
      clear ho1 ho2
      generalize L.length = LN at *
      go_wp2_with fail
      refine HR.out.mono ?_
      rintro _ w2 ⟨rfl, hb2⟩
      have HN : Hid (Below w.heap.size w w2) := hb.out.trans ((hb1.trans (hb2.mono hs1)).mono hb.out.size)
      go_wp2
      go_roundw
      case rel => exact ⟨j + 1, by omega, by go_num, HN⟩
      case measure => simp [intOf] <;> omega
    · have hI : ¬ 4 + (j : Int) ≤ 7 := by omega
      clear hlt hj
      go_wp2_with fail
      clear hI
      obtain ⟨wo, rfl⟩ : ∃ wo : World, wo = wr := ⟨_, rfl⟩
      go_loopw [10] (fun q wr => ∃ j : Nat, j ≤ c.n + 2 ∧ q = .int .i64 ((j : Int) - 1) ∧ Hid (Below w.heap.size w wr)) (fun q _ => (c.n + 2) - (intOf q + 1).toNat)
      case atStart => exact ⟨0, by omega, rfl, hb⟩
      case round =>
        obtain ⟨j, hj, rfl, hb⟩ := hrel
        by_cases hlt : j < c.n + 2
        · have hI : (j : Int) - 1 ≤ (c.n : Int) := by omega
          obtain ⟨q, hq⟩ : ∃ q : Int, q = (j : Int) - 1 := ⟨_, rfl⟩
          rw [← hq] at hI ⊢
          have HQ := Lib.hid hq
          have hq2 : q ≤ 17 := by omega
          have hq3 : -1 ≤ q := by omega
          clear hq
          have e1 : (knownQ c (dOf c l) q != knownQ c (dOf c l) q) = false := by simp
          have e2 : (timeoutQ c (dOf c l) q != timeoutQ c (dOf c l) q) = false := by simp
          have e3 : (wrongQ c (dOf c l) q != wrongQ c (dOf c l) q) = false := by simp
          go_wp2_with fail
          refine (PKnown_k hc _ w HA.out wr hb).mono ?_
          rintro _ _ ⟨rfl, rfl⟩
          go_wp2_with fail
          refine (RKnown_b hc hn _ w HB.out _ hb).mono ?_
          rintro _ w1 ⟨rfl, hb1⟩
          go_wp2_with fail
          refine (PTimeout_k hc _ w HA.out _ hb1).mono ?_
          rintro _ _ ⟨rfl, rfl⟩
          go_wp2_with fail
          refine (RTimeout_b hc hn _ w HB.out _ hb1).mono ?_
          rintro _ w2 ⟨rfl, hb2⟩
          go_wp2_with fail
          refine (PWrong_k hc _ w HA.out _ hb2).mono ?_
          rintro _ _ ⟨rfl, rfl⟩
          go_wp2_with fail
          refine (RWrong_b hc hn _ w HB.out _ hb2).mono ?_
          rintro _ w3 ⟨rfl, hb3⟩
          go_wp2
          go_roundw
          case rel => exact ⟨j + 1, by omega, by rw [HQ.out]; go_num, hb3⟩
          case measure => simp [intOf] <;> (have := HQ.out; omega)
        · obtain rfl : j = c.n + 2 := by omega
          have hI : ¬ ((c.n + 2 : Nat) : Int) - 1 ≤ (c.n : Int) := by omega
          go_wp2
          go_ret
          exact ⟨rfl, hb.out⟩
end Go.Proofs.Ytfjpmoigpnmeoaa
