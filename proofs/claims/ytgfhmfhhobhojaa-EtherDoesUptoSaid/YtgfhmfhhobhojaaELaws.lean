/-
  EtherNodes, EtherPaths, EtherPosts, EtherArrives, EtherLists, EtherDoes, EtherAll, walked.
-/
import Derived.Test.YtgfhmfhhobhojaaELaw9
namespace Go.Proofs.Ytgfhmfhhobhojaa
open Go.ChangeShapes Go.WideShapes Go.ChangeAt Go.RowKit
set_option maxRecDepth 100000 in
theorem EtherNodes_walk {H : Type} {enc : TypeId × Value → H} (x0 x1 : Int) (A2 : Option Addr) (n2 k2 : Nat) (x2 : List (List Value)) (w : World) (_b0 : -9223372036854775808 ≤ x0) (_t0 : x0 ≤ 9223372036854775807) (_b1 : -9223372036854775808 ≤ x1) (_t1 : x1 ≤ 9223372036854775807) (u2 : n2 ≤ 1048576) (p2 : n2 ≤ k2) (q2 : k2 * 80 ≤ 140737488351232) (l2 : x2.length = n2) (r2 : Rd w w.heap.size 6 A2 n2 x2.flatten) (s2 : ∀ y ∈ x2, y.length = 6 ∧ ∃ d, FitU enc Try.prog w 33 y d) :
    Calls Try.prog 6 #[.agg #[.int .i64 x0, .int .i64 x1, .slice A2 n2 k2]] w (WalkOk w) := by
  have hb0 := one_box' w (.cells #[.int .i64 x0, .int .i64 x1, .slice A2 n2 k2] 24)
  have hR := Blk.new w 24 #[.int .i64 x0, .int .i64 x1, .slice A2 n2 k2]
  have hO := (eops_openU l2 r2 s2).below hb0
  obtain ⟨w0, hw0⟩ : ∃ w0, w0 = w.alloc (.cells #[.int .i64 x0, .int .i64 x1, .slice A2 n2 k2] 24) := ⟨_, rfl⟩
  rw [← hw0] at hb0 hR hO
  have hs0 := hb0.size
  have HO : Hid (EOps w0 w0.heap.size 1048576 1048576 A2 n2) := Lib.hid fun hn => by
    obtain ⟨b, off, e, hlt, hk⟩ := hO hn
    refine ⟨b, off, e, by omega, fun k hk' => ?_⟩
    obtain ⟨kd, p, q, n, BA, bc, bs, SA, sc, sides, ho⟩ := hk k hk'
    exact ⟨kd, p, q, n, BA, bc, bs, SA, sc, sides, ho.c0, ho.c1, ho.c2, ho.c3, ho.c4, ho.c5, ho.rb.more hs0, ho.rs.more hs0, ho.mb, ho.ms, ho.cb, ho.cs, ho.kb, ho.pb, ho.qb, ho.nb, ho.sb⟩
  have HW := Lib.hid hw0
  have HB0 := Lib.hid hb0
  have HC := Lib.hid (walk_any x0 x1 1 7 A2 n2 k2 u2 p2 q2 HO)
  have r0 : w0.cell? ⟨w.heap.size, 0, none⟩ = some (.int .i64 x0) := hR.cell 0
  have r1 : w0.cell? ⟨w.heap.size, 1, none⟩ = some (.int .i64 x1) := hR.cell 1
  have r2 : w0.cell? ⟨w.heap.size, 2, none⟩ = some (.slice A2 n2 k2) := hR.cell 2
  clear hw0 hR hb0 hO l2 s2
  go_enter Try.func6, Try.ntmps6
  go_upto_region 1 with fail
  rw [← HW.out]
  go_wp2_with (go_at_call 28; refine HC.out.mono ?_; rintro _ w1 ⟨rfl, hb1⟩; have HB1 := Lib.hid hb1; clear hb1)
  go_ret
  exact ⟨rfl, HB0.out.trans (HB1.out.mono hs0)⟩
set_option maxRecDepth 100000 in
theorem EtherPaths_walk {H : Type} {enc : TypeId × Value → H} (x0 x1 : Int) (A2 : Option Addr) (n2 k2 : Nat) (x2 : List (List Value)) (w : World) (_b0 : -9223372036854775808 ≤ x0) (_t0 : x0 ≤ 9223372036854775807) (_b1 : -9223372036854775808 ≤ x1) (_t1 : x1 ≤ 9223372036854775807) (u2 : n2 ≤ 1048576) (p2 : n2 ≤ k2) (q2 : k2 * 80 ≤ 140737488351232) (l2 : x2.length = n2) (r2 : Rd w w.heap.size 6 A2 n2 x2.flatten) (s2 : ∀ y ∈ x2, y.length = 6 ∧ ∃ d, FitU enc Try.prog w 33 y d) :
    Calls Try.prog 7 #[.agg #[.int .i64 x0, .int .i64 x1, .slice A2 n2 k2]] w (WalkOk w) := by
  have hb0 := one_box' w (.cells #[.int .i64 x0, .int .i64 x1, .slice A2 n2 k2] 24)
  have hR := Blk.new w 24 #[.int .i64 x0, .int .i64 x1, .slice A2 n2 k2]
  have hO := (eops_openU l2 r2 s2).below hb0
  obtain ⟨w0, hw0⟩ : ∃ w0, w0 = w.alloc (.cells #[.int .i64 x0, .int .i64 x1, .slice A2 n2 k2] 24) := ⟨_, rfl⟩
  rw [← hw0] at hb0 hR hO
  have hs0 := hb0.size
  have HO : Hid (EOps w0 w0.heap.size 1048576 1048576 A2 n2) := Lib.hid fun hn => by
    obtain ⟨b, off, e, hlt, hk⟩ := hO hn
    refine ⟨b, off, e, by omega, fun k hk' => ?_⟩
    obtain ⟨kd, p, q, n, BA, bc, bs, SA, sc, sides, ho⟩ := hk k hk'
    exact ⟨kd, p, q, n, BA, bc, bs, SA, sc, sides, ho.c0, ho.c1, ho.c2, ho.c3, ho.c4, ho.c5, ho.rb.more hs0, ho.rs.more hs0, ho.mb, ho.ms, ho.cb, ho.cs, ho.kb, ho.pb, ho.qb, ho.nb, ho.sb⟩
  have HW := Lib.hid hw0
  have HB0 := Lib.hid hb0
  have HC := Lib.hid (walk_any x0 x1 8 9 A2 n2 k2 u2 p2 q2 HO)
  have r0 : w0.cell? ⟨w.heap.size, 0, none⟩ = some (.int .i64 x0) := hR.cell 0
  have r1 : w0.cell? ⟨w.heap.size, 1, none⟩ = some (.int .i64 x1) := hR.cell 1
  have r2 : w0.cell? ⟨w.heap.size, 2, none⟩ = some (.slice A2 n2 k2) := hR.cell 2
  clear hw0 hR hb0 hO l2 s2
  go_enter Try.func7, Try.ntmps7
  go_upto_region 1 with fail
  rw [← HW.out]
  go_wp2_with (go_at_call 28; refine HC.out.mono ?_; rintro _ w1 ⟨rfl, hb1⟩; have HB1 := Lib.hid hb1; clear hb1)
  go_ret
  exact ⟨rfl, HB0.out.trans (HB1.out.mono hs0)⟩
set_option maxRecDepth 100000 in
theorem EtherPosts_walk {H : Type} {enc : TypeId × Value → H} (x0 x1 : Int) (A2 : Option Addr) (n2 k2 : Nat) (x2 : List (List Value)) (w : World) (_b0 : -9223372036854775808 ≤ x0) (_t0 : x0 ≤ 9223372036854775807) (_b1 : -9223372036854775808 ≤ x1) (_t1 : x1 ≤ 9223372036854775807) (u2 : n2 ≤ 1048576) (p2 : n2 ≤ k2) (q2 : k2 * 80 ≤ 140737488351232) (l2 : x2.length = n2) (r2 : Rd w w.heap.size 6 A2 n2 x2.flatten) (s2 : ∀ y ∈ x2, y.length = 6 ∧ ∃ d, FitU enc Try.prog w 33 y d) :
    Calls Try.prog 8 #[.agg #[.int .i64 x0, .int .i64 x1, .slice A2 n2 k2]] w (WalkOk w) := by
  have hb0 := one_box' w (.cells #[.int .i64 x0, .int .i64 x1, .slice A2 n2 k2] 24)
  have hR := Blk.new w 24 #[.int .i64 x0, .int .i64 x1, .slice A2 n2 k2]
  have hO := (eops_openU l2 r2 s2).below hb0
  obtain ⟨w0, hw0⟩ : ∃ w0, w0 = w.alloc (.cells #[.int .i64 x0, .int .i64 x1, .slice A2 n2 k2] 24) := ⟨_, rfl⟩
  rw [← hw0] at hb0 hR hO
  have hs0 := hb0.size
  have HO : Hid (EOps w0 w0.heap.size 1048576 1048576 A2 n2) := Lib.hid fun hn => by
    obtain ⟨b, off, e, hlt, hk⟩ := hO hn
    refine ⟨b, off, e, by omega, fun k hk' => ?_⟩
    obtain ⟨kd, p, q, n, BA, bc, bs, SA, sc, sides, ho⟩ := hk k hk'
    exact ⟨kd, p, q, n, BA, bc, bs, SA, sc, sides, ho.c0, ho.c1, ho.c2, ho.c3, ho.c4, ho.c5, ho.rb.more hs0, ho.rs.more hs0, ho.mb, ho.ms, ho.cb, ho.cs, ho.kb, ho.pb, ho.qb, ho.nb, ho.sb⟩
  have HW := Lib.hid hw0
  have HB0 := Lib.hid hb0
  have HC := Lib.hid (walk_any x0 x1 10 10 A2 n2 k2 u2 p2 q2 HO)
  have r0 : w0.cell? ⟨w.heap.size, 0, none⟩ = some (.int .i64 x0) := hR.cell 0
  have r1 : w0.cell? ⟨w.heap.size, 1, none⟩ = some (.int .i64 x1) := hR.cell 1
  have r2 : w0.cell? ⟨w.heap.size, 2, none⟩ = some (.slice A2 n2 k2) := hR.cell 2
  clear hw0 hR hb0 hO l2 s2
  go_enter Try.func8, Try.ntmps8
  go_upto_region 1 with fail
  rw [← HW.out]
  go_wp2_with (go_at_call 28; refine HC.out.mono ?_; rintro _ w1 ⟨rfl, hb1⟩; have HB1 := Lib.hid hb1; clear hb1)
  go_ret
  exact ⟨rfl, HB0.out.trans (HB1.out.mono hs0)⟩
set_option maxRecDepth 100000 in
theorem EtherArrives_walk {H : Type} {enc : TypeId × Value → H} (x0 x1 : Int) (A2 : Option Addr) (n2 k2 : Nat) (x2 : List (List Value)) (w : World) (_b0 : -9223372036854775808 ≤ x0) (_t0 : x0 ≤ 9223372036854775807) (_b1 : -9223372036854775808 ≤ x1) (_t1 : x1 ≤ 9223372036854775807) (u2 : n2 ≤ 1048576) (p2 : n2 ≤ k2) (q2 : k2 * 80 ≤ 140737488351232) (l2 : x2.length = n2) (r2 : Rd w w.heap.size 6 A2 n2 x2.flatten) (s2 : ∀ y ∈ x2, y.length = 6 ∧ ∃ d, FitU enc Try.prog w 33 y d) :
    Calls Try.prog 9 #[.agg #[.int .i64 x0, .int .i64 x1, .slice A2 n2 k2]] w (WalkOk w) := by
  have hb0 := one_box' w (.cells #[.int .i64 x0, .int .i64 x1, .slice A2 n2 k2] 24)
  have hR := Blk.new w 24 #[.int .i64 x0, .int .i64 x1, .slice A2 n2 k2]
  have hO := (eops_openU l2 r2 s2).below hb0
  obtain ⟨w0, hw0⟩ : ∃ w0, w0 = w.alloc (.cells #[.int .i64 x0, .int .i64 x1, .slice A2 n2 k2] 24) := ⟨_, rfl⟩
  rw [← hw0] at hb0 hR hO
  have hs0 := hb0.size
  have HO : Hid (EOps w0 w0.heap.size 1048576 1048576 A2 n2) := Lib.hid fun hn => by
    obtain ⟨b, off, e, hlt, hk⟩ := hO hn
    refine ⟨b, off, e, by omega, fun k hk' => ?_⟩
    obtain ⟨kd, p, q, n, BA, bc, bs, SA, sc, sides, ho⟩ := hk k hk'
    exact ⟨kd, p, q, n, BA, bc, bs, SA, sc, sides, ho.c0, ho.c1, ho.c2, ho.c3, ho.c4, ho.c5, ho.rb.more hs0, ho.rs.more hs0, ho.mb, ho.ms, ho.cb, ho.cs, ho.kb, ho.pb, ho.qb, ho.nb, ho.sb⟩
  have HW := Lib.hid hw0
  have HB0 := Lib.hid hb0
  have HC := Lib.hid (walk_any x0 x1 11 12 A2 n2 k2 u2 p2 q2 HO)
  have r0 : w0.cell? ⟨w.heap.size, 0, none⟩ = some (.int .i64 x0) := hR.cell 0
  have r1 : w0.cell? ⟨w.heap.size, 1, none⟩ = some (.int .i64 x1) := hR.cell 1
  have r2 : w0.cell? ⟨w.heap.size, 2, none⟩ = some (.slice A2 n2 k2) := hR.cell 2
  clear hw0 hR hb0 hO l2 s2
  go_enter Try.func9, Try.ntmps9
  go_upto_region 1 with fail
  rw [← HW.out]
  go_wp2_with (go_at_call 28; refine HC.out.mono ?_; rintro _ w1 ⟨rfl, hb1⟩; have HB1 := Lib.hid hb1; clear hb1)
  go_ret
  exact ⟨rfl, HB0.out.trans (HB1.out.mono hs0)⟩
set_option maxRecDepth 100000 in
theorem EtherLists_walk {H : Type} {enc : TypeId × Value → H} (x0 x1 : Int) (A2 : Option Addr) (n2 k2 : Nat) (x2 : List (List Value)) (w : World) (_b0 : -9223372036854775808 ≤ x0) (_t0 : x0 ≤ 9223372036854775807) (_b1 : -9223372036854775808 ≤ x1) (_t1 : x1 ≤ 9223372036854775807) (u2 : n2 ≤ 1048576) (p2 : n2 ≤ k2) (q2 : k2 * 80 ≤ 140737488351232) (l2 : x2.length = n2) (r2 : Rd w w.heap.size 6 A2 n2 x2.flatten) (s2 : ∀ y ∈ x2, y.length = 6 ∧ ∃ d, FitU enc Try.prog w 33 y d) :
    Calls Try.prog 10 #[.agg #[.int .i64 x0, .int .i64 x1, .slice A2 n2 k2]] w (WalkOk w) := by
  have hb0 := one_box' w (.cells #[.int .i64 x0, .int .i64 x1, .slice A2 n2 k2] 24)
  have hR := Blk.new w 24 #[.int .i64 x0, .int .i64 x1, .slice A2 n2 k2]
  have hO := (eops_openU l2 r2 s2).below hb0
  obtain ⟨w0, hw0⟩ : ∃ w0, w0 = w.alloc (.cells #[.int .i64 x0, .int .i64 x1, .slice A2 n2 k2] 24) := ⟨_, rfl⟩
  rw [← hw0] at hb0 hR hO
  have hs0 := hb0.size
  have HO : Hid (EOps w0 w0.heap.size 1048576 1048576 A2 n2) := Lib.hid fun hn => by
    obtain ⟨b, off, e, hlt, hk⟩ := hO hn
    refine ⟨b, off, e, by omega, fun k hk' => ?_⟩
    obtain ⟨kd, p, q, n, BA, bc, bs, SA, sc, sides, ho⟩ := hk k hk'
    exact ⟨kd, p, q, n, BA, bc, bs, SA, sc, sides, ho.c0, ho.c1, ho.c2, ho.c3, ho.c4, ho.c5, ho.rb.more hs0, ho.rs.more hs0, ho.mb, ho.ms, ho.cb, ho.cs, ho.kb, ho.pb, ho.qb, ho.nb, ho.sb⟩
  have HW := Lib.hid hw0
  have HB0 := Lib.hid hb0
  have HC := Lib.hid (walk_any x0 x1 13 13 A2 n2 k2 u2 p2 q2 HO)
  have r0 : w0.cell? ⟨w.heap.size, 0, none⟩ = some (.int .i64 x0) := hR.cell 0
  have r1 : w0.cell? ⟨w.heap.size, 1, none⟩ = some (.int .i64 x1) := hR.cell 1
  have r2 : w0.cell? ⟨w.heap.size, 2, none⟩ = some (.slice A2 n2 k2) := hR.cell 2
  clear hw0 hR hb0 hO l2 s2
  go_enter Try.func10, Try.ntmps10
  go_upto_region 1 with fail
  rw [← HW.out]
  go_wp2_with (go_at_call 28; refine HC.out.mono ?_; rintro _ w1 ⟨rfl, hb1⟩; have HB1 := Lib.hid hb1; clear hb1)
  go_ret
  exact ⟨rfl, HB0.out.trans (HB1.out.mono hs0)⟩
set_option maxRecDepth 100000 in
theorem EtherDoes_walk {H : Type} {enc : TypeId × Value → H} (x0 x1 : Int) (A2 : Option Addr) (n2 k2 : Nat) (x2 : List (List Value)) (w : World) (_b0 : -9223372036854775808 ≤ x0) (_t0 : x0 ≤ 9223372036854775807) (_b1 : -9223372036854775808 ≤ x1) (_t1 : x1 ≤ 9223372036854775807) (u2 : n2 ≤ 1048576) (p2 : n2 ≤ k2) (q2 : k2 * 80 ≤ 140737488351232) (l2 : x2.length = n2) (r2 : Rd w w.heap.size 6 A2 n2 x2.flatten) (s2 : ∀ y ∈ x2, y.length = 6 ∧ ∃ d, FitU enc Try.prog w 33 y d) :
    Calls Try.prog 11 #[.agg #[.int .i64 x0, .int .i64 x1, .slice A2 n2 k2]] w (WalkOk w) := by
  have hb0 := one_box' w (.cells #[.int .i64 x0, .int .i64 x1, .slice A2 n2 k2] 24)
  have hR := Blk.new w 24 #[.int .i64 x0, .int .i64 x1, .slice A2 n2 k2]
  have hO := (eops_openU l2 r2 s2).below hb0
  obtain ⟨w0, hw0⟩ : ∃ w0, w0 = w.alloc (.cells #[.int .i64 x0, .int .i64 x1, .slice A2 n2 k2] 24) := ⟨_, rfl⟩
  rw [← hw0] at hb0 hR hO
  have hs0 := hb0.size
  have HO : Hid (EOps w0 w0.heap.size 1048576 1048576 A2 n2) := Lib.hid fun hn => by
    obtain ⟨b, off, e, hlt, hk⟩ := hO hn
    refine ⟨b, off, e, by omega, fun k hk' => ?_⟩
    obtain ⟨kd, p, q, n, BA, bc, bs, SA, sc, sides, ho⟩ := hk k hk'
    exact ⟨kd, p, q, n, BA, bc, bs, SA, sc, sides, ho.c0, ho.c1, ho.c2, ho.c3, ho.c4, ho.c5, ho.rb.more hs0, ho.rs.more hs0, ho.mb, ho.ms, ho.cb, ho.cs, ho.kb, ho.pb, ho.qb, ho.nb, ho.sb⟩
  have HW := Lib.hid hw0
  have HB0 := Lib.hid hb0
  have HC := Lib.hid (walk_any x0 x1 21 60 A2 n2 k2 u2 p2 q2 HO)
  have r0 : w0.cell? ⟨w.heap.size, 0, none⟩ = some (.int .i64 x0) := hR.cell 0
  have r1 : w0.cell? ⟨w.heap.size, 1, none⟩ = some (.int .i64 x1) := hR.cell 1
  have r2 : w0.cell? ⟨w.heap.size, 2, none⟩ = some (.slice A2 n2 k2) := hR.cell 2
  clear hw0 hR hb0 hO l2 s2
  go_enter Try.func11, Try.ntmps11
  go_upto_region 1 with fail
  rw [← HW.out]
  go_wp2_with (go_at_call 28; refine HC.out.mono ?_; rintro _ w1 ⟨rfl, hb1⟩; have HB1 := Lib.hid hb1; clear hb1)
  go_ret
  exact ⟨rfl, HB0.out.trans (HB1.out.mono hs0)⟩
set_option maxRecDepth 100000 in
theorem EtherAll_walk {H : Type} {enc : TypeId × Value → H} (x0 x1 : Int) (A2 : Option Addr) (n2 k2 : Nat) (x2 : List (List Value)) (w : World) (_b0 : -9223372036854775808 ≤ x0) (_t0 : x0 ≤ 9223372036854775807) (_b1 : -9223372036854775808 ≤ x1) (_t1 : x1 ≤ 9223372036854775807) (u2 : n2 ≤ 1048576) (p2 : n2 ≤ k2) (q2 : k2 * 80 ≤ 140737488351232) (l2 : x2.length = n2) (r2 : Rd w w.heap.size 6 A2 n2 x2.flatten) (s2 : ∀ y ∈ x2, y.length = 6 ∧ ∃ d, FitU enc Try.prog w 33 y d) :
    Calls Try.prog 12 #[.agg #[.int .i64 x0, .int .i64 x1, .slice A2 n2 k2]] w (WalkOk w) := by
  have hb0 := one_box' w (.cells #[.int .i64 x0, .int .i64 x1, .slice A2 n2 k2] 24)
  have hR := Blk.new w 24 #[.int .i64 x0, .int .i64 x1, .slice A2 n2 k2]
  have hO := (eops_openU l2 r2 s2).below hb0
  obtain ⟨w0, hw0⟩ : ∃ w0, w0 = w.alloc (.cells #[.int .i64 x0, .int .i64 x1, .slice A2 n2 k2] 24) := ⟨_, rfl⟩
  rw [← hw0] at hb0 hR hO
  have hs0 := hb0.size
  have HO : Hid (EOps w0 w0.heap.size 1048576 1048576 A2 n2) := Lib.hid fun hn => by
    obtain ⟨b, off, e, hlt, hk⟩ := hO hn
    refine ⟨b, off, e, by omega, fun k hk' => ?_⟩
    obtain ⟨kd, p, q, n, BA, bc, bs, SA, sc, sides, ho⟩ := hk k hk'
    exact ⟨kd, p, q, n, BA, bc, bs, SA, sc, sides, ho.c0, ho.c1, ho.c2, ho.c3, ho.c4, ho.c5, ho.rb.more hs0, ho.rs.more hs0, ho.mb, ho.ms, ho.cb, ho.cs, ho.kb, ho.pb, ho.qb, ho.nb, ho.sb⟩
  have HW := Lib.hid hw0
  have HB0 := Lib.hid hb0
  have HC := Lib.hid (walk_any x0 x1 0 60 A2 n2 k2 u2 p2 q2 HO)
  have r0 : w0.cell? ⟨w.heap.size, 0, none⟩ = some (.int .i64 x0) := hR.cell 0
  have r1 : w0.cell? ⟨w.heap.size, 1, none⟩ = some (.int .i64 x1) := hR.cell 1
  have r2 : w0.cell? ⟨w.heap.size, 2, none⟩ = some (.slice A2 n2 k2) := hR.cell 2
  clear hw0 hR hb0 hO l2 s2
  go_enter Try.func12, Try.ntmps12
  go_upto_region 1 with fail
  rw [← HW.out]
  go_wp2_with (go_at_call 28; refine HC.out.mono ?_; rintro _ w1 ⟨rfl, hb1⟩; have HB1 := Lib.hid hb1; clear hb1)
  go_ret
  exact ⟨rfl, HB0.out.trans (HB1.out.mono hs0)⟩
end Go.Proofs.Ytgfhmfhhobhojaa
