/-
  JournalApplies: the law's helpers: disks.
-/
import Derived.Test.YtpkdalpjfcopbaaDoorAHelp
namespace Go.Proofs.YtpkdalpjfcopbaaDoor
open Go.RowKit
set_option maxRecDepth 100000 in
set_option maxHeartbeats 1600000 in
theorem disks_yes {w : World} (A1 A2 B1 B2 : Option Addr) (ca1 ca2 cb1 cb2 : Nat) (a b : List UInt8) (h1 : RdB w w.heap.size A1 a.length a) (h2 : RdB w w.heap.size B1 b.length b) (h3 : RdB w w.heap.size A2 a.length a) (h4 : RdB w w.heap.size B2 b.length b) : Calls Tryd.prog 41 #[.agg #[.slice A1 a.length ca1, .slice B1 b.length cb1], .agg #[.slice A2 a.length ca2, .slice B2 b.length cb2]] w fun e w' => e = .returned (.bool true) ∧ Below w.heap.size w w' := by
  have hb1 := one_box' w (.cells #[.slice A1 a.length ca1, .slice B1 b.length cb1] 24)
  have hE1 := Blk.new w 24 #[.slice A1 a.length ca1, .slice B1 b.length cb1]
  obtain ⟨w1, hw1⟩ : ∃ w1, w1 = w.alloc (.cells #[.slice A1 a.length ca1, .slice B1 b.length cb1] 24) := ⟨_, rfl⟩
  have hs1 : w1.heap.size = w.heap.size + 1 := by rw [hw1]; simp
  rw [← hw1] at hb1 hE1
  have hb2 := one_box' w1 (.cells #[.slice A2 a.length ca2, .slice B2 b.length cb2] 24)
  have hE2 := Blk.new w1 24 #[.slice A2 a.length ca2, .slice B2 b.length cb2]
  obtain ⟨w2, hw2⟩ : ∃ w2, w2 = w1.alloc (.cells #[.slice A2 a.length ca2, .slice B2 b.length cb2] 24) := ⟨_, rfl⟩
  rw [← hw2] at hb2 hE2
  have hE1' := hE1.over hb2
  have hb : Below w.heap.size w w2 := hb1.trans (hb2.mono hb1.size)
  have x0 : w2.cell? ⟨w.heap.size, 0, none⟩ = some (.slice A1 a.length ca1) := hE1'.cell 0
  have x1 : w2.cell? ⟨w.heap.size, 1, none⟩ = some (.slice B1 b.length cb1) := hE1'.cell 1
  have y0 : w2.cell? ⟨w.heap.size + 1, 0, none⟩ = some (.slice A2 a.length ca2) := by rw [← hs1]; exact hE2.cell 0
  have y1 : w2.cell? ⟨w.heap.size + 1, 1, none⟩ = some (.slice B2 b.length cb2) := by rw [← hs1]; exact hE2.cell 1
  have HA := Lib.hid (same_yes A1 A2 a.length a.length ca1 ca2 _ _ a w2 (h1.below hb) (h3.below hb))
  have HB := Lib.hid (same_yes B1 B2 b.length b.length cb1 cb2 _ _ b w2 (h2.below hb) (h4.below hb))
  have HW1 := Lib.hid hw1
  have HW2 := Lib.hid hw2
  have HBB := Lib.hid hb
  clear hs1 hb1 hE1 hw1 hb2 hE2 hw2 hE1' hb h1 h2 h3 h4
  go_enter Tryd.func41, Tryd.ntmps41
  go_upto_region 1 with fail
  rw [← HW1.out]
  rw [← HW2.out]
  go_wp2_with (first
    | (go_at_call 48; refine HA.out.mono ?_; rintro _ _ ⟨rfl, rfl⟩)
    | (go_at_call 48; refine HB.out.mono ?_; rintro _ _ ⟨rfl, rfl⟩))
  go_ret
  exact ⟨rfl, HBB.out⟩
end Go.Proofs.YtpkdalpjfcopbaaDoor
