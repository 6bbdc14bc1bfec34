/-
  The statements' helpers: num, same, copied.
-/
import Derived.Test.YtfjpmoigpnmeoaaDRefB
namespace Go.Proofs.Ytfjpmoigpnmeoaa
open Go.RowKit

set_option maxHeartbeats 400000 in
theorem num_any (x : Int) (w : World) (_h0 : 0 ≤ x) (_h1 : x ≤ 100) : Calls Try.prog 15 #[.int .i64 x] w fun e w' => e = .returned (.int .i64 x) ∧ w = w' := by
  go_enter Try.func15, Try.ntmps15
  go_wp2
  go_ret
  exact ⟨rfl, rfl⟩
set_option maxRecDepth 100000 in
set_option maxHeartbeats 1600000 in
theorem same_yes (A A' : Option Addr) (n cap cap' : Nat) (hs : List Int) (w : World) (hr : RdI w w.heap.size A n hs) (hr' : RdI w w.heap.size A' n hs) (hm : n ≤ 140737488351232) :
    Calls Try.prog 31 #[.slice A n cap, .slice A' n cap'] w fun e w' => e = .returned (.bool true) ∧ Below w.heap.size w w' := by
  have e0 : ((n : Int) != (n : Int)) = false := by simp
  go_enter Try.func31, Try.ntmps31
  go_wp2_with fail
  go_loopw [5] (fun i wr => ∃ k : Nat, k ≤ n ∧ i = .int .i64 (k : Int) ∧ Below w.heap.size w wr) (fun i _ => n - (intOf i).toNat)
  case atStart => exact ⟨0, by omega, rfl, Below.refl _ _⟩
  case round =>
    obtain ⟨k, hk, rfl, hb⟩ := hrel
    by_cases hlt : k < n
    · have hI : (k : Int) < (n : Int) := by omega
      obtain ⟨b, off, x, rfl, hbl, hx, hc⟩ := (hr.below hb).int hlt
      obtain ⟨b', off', x', rfl, hbl', hx', hc'⟩ := (hr'.below hb).int hlt
      obtain rfl : x' = x := by rw [hx] at hx'; exact (Option.some.inj hx').symm
      have e1 : (x' != x') = false := by simp
      clear hx hx'
      go_upto_region 6 with fail
      go_quiet (fail)
      go_wp2
      go_roundw
      case rel => exact ⟨k + 1, by omega, by go_num, below_drewN hb _⟩
      case measure => simp [intOf] <;> omega
    · obtain rfl : k = n := by omega
      go_wp2
      go_ret
      exact ⟨rfl, hb⟩
/-- What copied hands out: a list of its own. -/
def CopyP (w : World) (hs : List Int) (e : Ending) (w' : World) : Prop := ∃ g, e = .returned (.slice (some ⟨g, 0, none⟩) hs.length hs.length) ∧ w.heap.size ≤ g ∧ Blk w' g 3 (rg hs.length fun j => .int .i64 (hs.getD j 0)) ∧ Below w.heap.size w w'
set_option maxRecDepth 100000 in
set_option maxHeartbeats 1600000 in
theorem copied_any (A : Option Addr) (n cap : Nat) (hs : List Int) (w : World) (hr : RdI w w.heap.size A n hs) (hm : n ≤ 17592186044416) :
    Calls Try.prog 24 #[.slice A n cap] w (CopyP w hs) := by
  have HL := Lib.hid hr.lenI
  have hmk := make_ints n hm w
  have hb0 := one_box' w (.cells (rg n fun _ => .int .i64 0) 3)
  have hB := Blk.new w 3 (rg n fun _ => .int .i64 0)
  obtain ⟨w0, hw0⟩ : ∃ w0, w0 = w.alloc (.cells (rg n fun _ => .int .i64 0) 3) := ⟨_, rfl⟩
  rw [← hw0] at hB hb0
  have HW := Lib.hid hw0
  have HB : Hid (Blk w0 w.heap.size 3 (rg n fun j => .int .i64 (if j < 0 then hs.getD j 0 else 0))) := by
    have : (rg n fun _ => Value.int .i64 0) = rg n fun j => .int .i64 (if j < 0 then hs.getD j 0 else 0) := rg_congr fun j _ => by simp
    rw [← this]; exact hB
  clear hw0 hB
  go_enter Try.func24, Try.ntmps24
  go_upto_region 2 with fail
  rw [← HW.out]
  clear hmk
  go_wp2_with fail
  go_loopw [4] (fun i wr => ∃ k : Nat, k ≤ n ∧ i = .int .i64 (k : Int) ∧ Hid (Blk wr w.heap.size 3 (rg n fun j => .int .i64 (if j < k then hs.getD j 0 else 0))) ∧ Below w.heap.size w wr) (fun i _ => n - (intOf i).toNat)
  case atStart => exact ⟨0, by omega, rfl, HB, hb0⟩
  case round =>
    clear HB hb0
    obtain ⟨k, hk, rfl, HB, hb⟩ := hrel
    by_cases hlt : k < n
    · have hI : (k : Int) < (n : Int) := by omega
      obtain ⟨b, off, x, rfl, hbl, hx, hc⟩ := (hr.below hb).int hlt
      have l0 : wr.cell? ⟨w.heap.size, k, none⟩ = some (.int .i64 (if k < k then hs.getD k 0 else 0)) := by rw [HB.out.cell, rg_at _ hlt]
      have lf : wr.frozen? ⟨w.heap.size, k, none⟩ = false := HB.out.frozen _
      have HN : Hid (Blk (wr.setCell ⟨w.heap.size, k, none⟩ (.int .i64 x)) w.heap.size 3 (rg n fun j => .int .i64 (if j < k + 1 then hs.getD j 0 else 0))) := by
        have h1 := HB.out.set_ k (.int .i64 x)
        rw [rg_set] at h1
        have : (rg n fun j => if j = k then Value.int .i64 x else .int .i64 (if j < k then hs.getD j 0 else 0)) = rg n fun j => .int .i64 (if j < k + 1 then hs.getD j 0 else 0) := rg_congr fun j _ => by
          by_cases e : j = k
          · subst e
            rw [if_pos rfl, if_pos (by omega)]
            simp [List.getD, hx]
          · rw [if_neg e]
            by_cases hj : j < k
            · rw [if_pos hj, if_pos (by omega)]
            · rw [if_neg hj, if_neg (by omega)]
        rw [← this]; exact h1
      have hb2 : Below w.heap.size w (wr.setCell ⟨w.heap.size, k, none⟩ (.int .i64 x)) := hb.setCell (by simp) _
      clear hx
      go_wp2
      go_roundw
      case rel => exact ⟨k + 1, by omega, by go_num, HN, hb2⟩
      case measure => simp [intOf] <;> omega
    · obtain rfl : k = n := by omega
      have HN : Hid (CopyP w hs (.returned (.slice (some ⟨w.heap.size, 0, none⟩) k k)) wr) := by
        refine ⟨w.heap.size, by rw [HL.out], Nat.le_refl _, ?_, hb⟩
        have : (rg k fun j => Value.int .i64 (if j < k then hs.getD j 0 else 0)) = rg hs.length fun j => .int .i64 (hs.getD j 0) := by
          rw [HL.out]
          exact rg_congr fun j hj => by rw [if_pos hj]
        rw [← this]; exact HB.out
      go_wp2
      go_ret
      exact HN.out
end Go.Proofs.Ytfjpmoigpnmeoaa
