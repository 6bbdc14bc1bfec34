/-
  The document's pick and unborn.
-/
import Derived.Test.YtpkdalpjfcopbaaDoorLRead
namespace Go.Proofs.YtpkdalpjfcopbaaDoor
open Go.RowKit
/-- The number of the file that counts. -/
def pickI (f : Fls) : Int := match pickR f with
  | none => -1
  | some (k, _) => (k : Int)
set_option maxRecDepth 100000 in
set_option maxHeartbeats 1600000 in
theorem rpick_any {w : World} {base : Nat} {f : Fls} {ra rb : RV} (ha : RdV w base f.a ra) (hb : RdV w base f.b rb) :
    Calls Tryd.prog 45 #[ra.val, rb.val] w fun e w' => e = .returned (.int .i64 (pickI f)) ∧ Below w.heap.size w w' := by
  obtain ⟨w1, hw1⟩ : ∃ x, x = w.alloc (.cells #[.int .i64 ra.gn, .int .i64 ra.ct, .int .i64 ra.fn, .slice ra.A ra.m ra.c, .bool ra.so, .bool ra.cl] 82) := ⟨_, rfl⟩
  obtain ⟨w2, hw2⟩ : ∃ x, x = w1.alloc (.cells #[.int .i64 rb.gn, .int .i64 rb.ct, .int .i64 rb.fn, .slice rb.A rb.m rb.c, .bool rb.so, .bool rb.cl] 82) := ⟨_, rfl⟩
  have hb1 : Below w.heap.size w w1 := by rw [hw1]; exact one_box' _ _
  have hb2 : Below w1.heap.size w1 w2 := by rw [hw2]; exact one_box' _ _
  have hB1 : Blk w1 w.heap.size 82 ra.cells := by rw [hw1]; exact Blk.new _ _ _
  have hB2 : Blk w2 w1.heap.size 82 rb.cells := by rw [hw2]; exact Blk.new _ _ _
  have hW := Below.then hb1 hb2
  obtain ⟨⟨x0, _, _, _, x4, _⟩, _⟩ := rv_cells (hB1.over hb2)
  obtain ⟨⟨y0, _, _, _, y4, _⟩, _⟩ := rv_cells hB2
  have e1 : w1.heap.size = w.heap.size + 1 := by rw [hw1]; simp
  rw [e1] at y0 y4
  have sa := ha.snd
  have sb := hb.snd
  clear ha hb hB1 hB2 hb1 hb2 e1
  have HW := Lib.hid (And.intro hw1 (And.intro hw2 hW))
  clear hw1 hw2 hW
  cases hsa : ra.so with
  | true =>
    obtain ⟨fa, ea, ga, _⟩ := sa.1 hsa
    rw [hsa] at x4
    cases hsb : rb.so with
    | true =>
      obtain ⟨fb, eb, gb, _⟩ := sb.1 hsb
      rw [hsb] at y4
      by_cases hg : fa.gen < fb.gen
      · have hp : pickI f = 1 := by unfold pickI pickR; rw [ea, eb]; dsimp only; rw [if_pos hg]; rfl
        have hd : decide (rb.gn ≤ ra.gn) = false := decide_eq_false (by omega)
        have HP := Lib.hid hp
        clear hp hsa hsb sa sb ea eb hg ga gb
        unfold RV.val
        go_enter Tryd.func45, Tryd.ntmps45
        go_upto_region 1 with fail
        rw [← HW.out.1, ← HW.out.2.1]
        go_wp2
        exact bodyPost_ret (v := .int .i64 (1)) (by simp [results, Tryd.results45, go_sem]) rfl ⟨by rw [HP.out], HW.out.2.2⟩
      · have hp : pickI f = 0 := by unfold pickI pickR; rw [ea, eb]; dsimp only; rw [if_neg hg]; rfl
        have hd : decide (rb.gn ≤ ra.gn) = true := decide_eq_true (by omega)
        have HP := Lib.hid hp
        clear hp hsa hsb sa sb ea eb hg ga gb
        unfold RV.val
        go_enter Tryd.func45, Tryd.ntmps45
        go_upto_region 1 with fail
        rw [← HW.out.1, ← HW.out.2.1]
        go_wp2
        exact bodyPost_ret (v := .int .i64 (0)) (by simp [results, Tryd.results45, go_sem]) rfl ⟨by rw [HP.out], HW.out.2.2⟩
    | false =>
      rw [hsb] at y4
      have eb := sb.2 hsb
      have hp : pickI f = 0 := by unfold pickI pickR; rw [ea, eb]; rfl
      have HP := Lib.hid hp
      clear hp hsa hsb sa sb ea eb ga
      unfold RV.val
      go_enter Tryd.func45, Tryd.ntmps45
      go_upto_region 1 with fail
      rw [← HW.out.1, ← HW.out.2.1]
      go_wp2
      exact bodyPost_ret (v := .int .i64 (0)) (by simp [results, Tryd.results45, go_sem]) rfl ⟨by rw [HP.out], HW.out.2.2⟩
  | false =>
    rw [hsa] at x4
    have ea := sa.2 hsa
    cases hsb : rb.so with
    | true =>
      rw [hsb] at y4
      obtain ⟨fb, eb, gb, _⟩ := sb.1 hsb
      have hp : pickI f = 1 := by unfold pickI pickR; rw [ea, eb]; rfl
      have HP := Lib.hid hp
      clear hp hsa hsb sa sb ea eb gb
      unfold RV.val
      go_enter Tryd.func45, Tryd.ntmps45
      go_upto_region 1 with fail
      rw [← HW.out.1, ← HW.out.2.1]
      go_wp2
      exact bodyPost_ret (v := .int .i64 (1)) (by simp [results, Tryd.results45, go_sem]) rfl ⟨by rw [HP.out], HW.out.2.2⟩
    | false =>
      rw [hsb] at y4
      have eb := sb.2 hsb
      have hp : pickI f = -1 := by unfold pickI pickR; rw [ea, eb]
      have HP := Lib.hid hp
      clear hp hsa hsb sa sb ea eb
      unfold RV.val
      go_enter Tryd.func45, Tryd.ntmps45
      go_upto_region 1 with fail
      rw [← HW.out.1, ← HW.out.2.1]
      go_wp2
      exact bodyPost_ret (v := .int .i64 (-1)) (by simp [results, Tryd.results45, go_sem]) rfl ⟨by rw [HP.out], HW.out.2.2⟩
set_option maxRecDepth 100000 in
set_option maxHeartbeats 1600000 in
theorem unborn_any {w : World} {f : Fls} {A0 A1 : Option Addr} {c0 c1 : Nat} (h0 : RdB w w.heap.size A0 f.a.length f.a) (m0 : f.a.length ≤ 9223372036854775807) :
    Calls Tryd.prog 51 #[.agg #[.slice A0 f.a.length c0, .slice A1 f.b.length c1]] w fun e w' => e = .returned (.bool (unbornR f)) ∧ Below w.heap.size w w' := by
  obtain ⟨w1, hw1⟩ : ∃ x, x = w.alloc (.cells #[.slice A0 f.a.length c0, .slice A1 f.b.length c1] 24) := ⟨_, rfl⟩
  have hb1 : Below w.heap.size w w1 := by rw [hw1]; exact one_box' _ _
  have hB1 : Blk w1 w.heap.size 24 #[.slice A0 f.a.length c0, .slice A1 f.b.length c1] := by rw [hw1]; exact Blk.new _ _ _
  have HHD : Hid (∀ W : World, Calls Tryd.prog 68 #[.int .i64 1, .int .i64 0] W fun e w' => ∃ A' cap, e = .returned (.slice A' 18 cap) ∧ W.heap.size ≤ w'.heap.size ∧ w'.ownsRow W.heap.size 5 1 (.slice A' 18 cap) 18 (bvs (headB 1 0)) ∧ Below W.heap.size W w') := Lib.hid fun W => (Rhead_any (w := W) 1 0 (by omega) (by omega)).mono fun e w' ⟨A', cap, he, ho, hb⟩ => ⟨A', cap, he, hb.size, ho, hb⟩
  have HW := Lib.hid (And.intro hw1 (And.intro hb1 hB1))
  have H0 := Lib.hid h0
  clear hw1 hb1 hB1 h0
  go_enter Tryd.func51, Tryd.ntmps51
  go_upto_region 1 with fail
  rw [← HW.out.1]
  go_upto_region 2 with (go_at_call 68; refine (HHD.out _).mono ?_; rintro _ w2 ⟨A2, c2, rfl, _, ho2, hb2⟩; have H2 := Lib.hid (And.intro ho2 hb2); clear ho2 hb2)
  have hX := HW.out.2.2.over H2.out.2
  have HB : Hid (Below w.heap.size w w2) := Lib.hid (Below.then HW.out.2.1 H2.out.2)
  have d0 : w2.cell? ⟨w.heap.size, 0, none⟩ = some (.slice A0 f.a.length c0) := hX.cell 0
  have d1 : w2.cell? ⟨w.heap.size, 1, none⟩ = some (.slice A1 f.b.length c1) := hX.cell 1
  have hrx : RdB w2 w2.heap.size A2 18 (headB 1 0) := Rd.of_own H2.out.1
  have hc2 : 18 ≤ c2 := by
    obtain ⟨_, cx, ex, hc2, _⟩ := own_shape H2.out.1
    injection ex with _ _ ex
    omega
  have HRX := Lib.hid hrx
  clear hX hrx
  by_cases hb0 : f.b.length = 0
  · have db : ((f.b.length : Int) == 0) = true := by rw [beq_iff_eq]; omega
    have HB0 := Lib.hid hb0
    clear hb0
    by_cases ha0 : f.a.length < 18
    · have da : decide ((f.a.length : Int) < 18) = true := decide_eq_true (by omega)
      have hr1 : RdB w2 w2.heap.size A2 f.a.length ((headB 1 0).take f.a.length) := HRX.out.takeB (by omega)
      have hr2 : RdB w2 w2.heap.size A0 f.a.length f.a := (H0.out.below HB.out).more HB.out.size
      have k1 := fun d c => conv_rd (P := Tryd.prog) (cap := c) (hr1.dn d) Tryd.underlying22 Tryd.underlying5 Tryd.underlying9
      have k2 := fun d c => conv_rd (P := Tryd.prog) (cap := c) (hr2.dn d) Tryd.underlying22 Tryd.underlying5 Tryd.underlying9
      have hcx : f.a.length ≤ c2 := by omega
      have hax : (f.a.length : Int) ≤ (c2 : Int) := by omega
      have ha00 : (0 : Int) ≤ (f.a.length : Int) := by omega
      clear hr1 hr2
      by_cases heq : f.a = List.take f.a.length (headB 1 0)
      · have hs : (f.a == List.take f.a.length (headB 1 0)) = true := by simpa using heq
        have hu : unbornR f = true := by
          unfold unbornR
          rw [decide_eq_true_eq]
          exact ⟨List.eq_nil_of_length_eq_zero HB0.out, ha0, heq⟩
        have HU := Lib.hid hu
        clear heq hu
        go_quiet (fail)
        go_wp2
        exact bodyPost_ret (v := .bool true) (by simp [results, Tryd.results51, go_sem]) rfl ⟨by rw [HU.out], below_drewN HB.out nq⟩
      · have hs : (f.a == List.take f.a.length (headB 1 0)) = false := by simpa using heq
        have hu : unbornR f = false := by
          unfold unbornR
          rw [decide_eq_false_iff_not]
          exact fun h => heq h.2.2
        have HU := Lib.hid hu
        clear heq hu
        go_quiet (fail)
        go_wp2
        exact bodyPost_ret (v := .bool false) (by simp [results, Tryd.results51, go_sem]) rfl ⟨by rw [HU.out], below_drewN HB.out nq⟩
    · have da : decide ((f.a.length : Int) < 18) = false := decide_eq_false (by omega)
      have hu : unbornR f = false := by
        unfold unbornR
        rw [decide_eq_false_iff_not]
        exact fun h => ha0 h.2.1
      have HU := Lib.hid hu
      clear hu ha0
      go_quiet (fail)
      go_wp2
      exact bodyPost_ret (v := .bool false) (by simp [results, Tryd.results51, go_sem]) rfl ⟨by rw [HU.out], below_drewN HB.out nq⟩
  · have db : ((f.b.length : Int) == 0) = false := by rw [beq_eq_false_iff_ne]; omega
    have hu : unbornR f = false := by
      unfold unbornR
      rw [decide_eq_false_iff_not]
      exact fun h => hb0 (by rw [h.1]; rfl)
    have HU := Lib.hid hu
    clear hu hb0
    go_quiet (fail)
    go_wp2
    exact bodyPost_ret (v := .bool false) (by simp [results, Tryd.results51, go_sem]) rfl ⟨by rw [HU.out], below_drewN HB.out nq⟩
end Go.Proofs.YtpkdalpjfcopbaaDoor
