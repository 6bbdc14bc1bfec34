/-
  DetectOwn: a list that was handed out and written full holds what was written.
-/
import Derived.Test.YtfjpmoigpnmeoaaDOut3
import Derived.IntWalk
namespace Go.Proofs.Ytfjpmoigpnmeoaa
open Go.RowKit
set_option maxRecDepth 100000 in
set_option maxHeartbeats 3200000 in
theorem still_yes (Ag : Option Addr) (n cap g1 g2 c1 c2 : Nat) (mk : Int) (w : World) (hr : RdI w w.heap.size Ag n (List.replicate n mk)) (h1 : w.cell? ⟨g1, n, none⟩ = some (.int .i64 (mk + 1))) (h2 : w.cell? ⟨g2, n, none⟩ = some (.int .i64 (mk + 1))) (hg1 : g1 < w.heap.size) (hg2 : g2 < w.heap.size) (hn : n ≤ 1000) (hm : 0 ≤ mk ∧ mk ≤ 10000) :
    Calls Try.prog 38 #[.agg #[.slice Ag n cap, .slice (some ⟨g1, 0, none⟩) (n + 1) c1, .slice (some ⟨g2, 0, none⟩) (n + 1) c2, .int .i64 mk]] w fun e w' => e = .returned (.bool true) ∧ Below w.heap.size w w' := by
  have hb0 := one_box' w (.cells #[.slice Ag n cap, .slice (some ⟨g1, 0, none⟩) (n + 1) c1, .slice (some ⟨g2, 0, none⟩) (n + 1) c2, .int .i64 mk] 74)
  have hS := Blk.new w 74 #[.slice Ag n cap, .slice (some ⟨g1, 0, none⟩) (n + 1) c1, .slice (some ⟨g2, 0, none⟩) (n + 1) c2, .int .i64 mk]
  obtain ⟨w0, hw0⟩ : ∃ w0, w0 = w.alloc (.cells #[.slice Ag n cap, .slice (some ⟨g1, 0, none⟩) (n + 1) c1, .slice (some ⟨g2, 0, none⟩) (n + 1) c2, .int .i64 mk] 74) := ⟨_, rfl⟩
  rw [← hw0] at hb0 hS
  have HW := Lib.hid hw0
  have HB := Lib.hid hb0
  have HX : Hid (∀ W, Below w0.heap.size w0 W → W.cell? ⟨w.heap.size, 0, none⟩ = some (.slice Ag n cap) ∧ W.cell? ⟨w.heap.size, 1, none⟩ = some (.slice (some ⟨g1, 0, none⟩) (n + 1) c1) ∧ W.cell? ⟨w.heap.size, 2, none⟩ = some (.slice (some ⟨g2, 0, none⟩) (n + 1) c2) ∧ W.cell? ⟨w.heap.size, 3, none⟩ = some (.int .i64 mk) ∧ W.cell? ⟨g1, n, none⟩ = some (.int .i64 (mk + 1)) ∧ W.cell? ⟨g2, n, none⟩ = some (.int .i64 (mk + 1)) ∧ RdI W w.heap.size Ag n (List.replicate n mk)) := Lib.hid fun W hb =>
    ⟨(hS.over hb).cell 0, (hS.over hb).cell 1, (hS.over hb).cell 2, (hS.over hb).cell 3, ((hb0.trans (hb.mono hb0.size)).cell (p := ⟨g1, n, none⟩) hg1).trans h1, ((hb0.trans (hb.mono hb0.size)).cell (p := ⟨g2, n, none⟩) hg2).trans h2, hr.below (hb0.trans (hb.mono hb0.size))⟩
  clear hw0 hS hb0 h1 h2 hr
  go_enter Try.func38, Try.ntmps38
  go_upto_region 1 with fail
  rw [← HW.out]
  go_wp2_with fail
  go_loopw [3] (fun i wr => ∃ k : Nat, k ≤ n ∧ i = .int .i64 (k : Int) ∧ Hid (Below w0.heap.size w0 wr)) (fun i _ => n - (intOf i).toNat)
  case atStart => exact ⟨0, by omega, rfl, Lib.hid (Below.refl _ _)⟩
  case round =>
    obtain ⟨k, hk, rfl, HBR⟩ := hrel
    obtain ⟨q0, q1, q2, q3, q4, q5, hr⟩ := HX.out wr HBR.out
    by_cases hlt : k < n
    · have hI : (k : Int) < (n : Int) := by omega
      obtain ⟨b, off, x, rfl, hbl, hx, hc⟩ := hr.int hlt
      have hxe : x = mk := by
        rw [List.getElem?_replicate, if_pos hlt] at hx
        injection hx with hx; exact hx.symm
      rw [hxe] at hc
      have e1 : (mk != mk) = false := by simp
      clear hx hxe hr q1 q2 q4 q5
      go_upto_region 4 with fail
      go_quiet (fail)
      have HBQ := Lib.hid (below_drewN HBR.out nq)
      go_wp2_with fail
      go_roundw
      case rel => exact ⟨k + 1, by omega, by go_num, HBQ⟩
      case measure => simp [intOf] <;> omega
    · obtain rfl : k = n := by omega
      have hw1 : IntKind.i64.wrap ((k : Int) + 1) = (k : Int) + 1 := IntWalk.i64_in _ (by omega)
      have hw2 : IntKind.i64.wrap (mk + 1) = mk + 1 := IntWalk.i64_in _ (by omega)
      have hI : ¬ (k : Int) < (k : Int) := by omega
      have hJ : (k : Int) < (k : Int) + 1 := by omega
      have e1 : ((k : Int) + 1 == (k : Int) + 1) = true := by simp
      have e2 : (mk + 1 == mk + 1) = true := by simp
      clear hr
      go_upto_region 7 with fail
      go_quiet (fail)
      have HE : Hid (Below w.heap.size w (wr.drewN nq)) := Lib.hid (HB.out.trans ((below_drewN HBR.out nq).mono HB.out.size))
      go_wp2
      go_ret
      exact ⟨rfl, HE.out⟩
end Go.Proofs.Ytfjpmoigpnmeoaa
