/-
  The document's detector: fits.
-/
import Derived.Test.YtfjpmoigpnmeoaaDRef3
namespace Go.Proofs.Ytfjpmoigpnmeoaa
open Go.RowKit
variable {w : World} {F : Nat → Prop} {c : Cfg} {K : Nat} {l : List Ev} {v : Value}
set_option maxRecDepth 100000 in
set_option maxHeartbeats 3200000 in
theorem fits_any (h : RD w F c K l v) (hF : ∀ k, F k → k < w.heap.size) (hn : c.n ≤ 16) (hsf : c.self < c.n) (A : Option Addr) (n cap : Nat) (hs : List Int) (hr : RdI w w.heap.size A n hs) (hm : n ≤ 140737488351232) (q inc tick : Int) :
    Calls Try.prog 62 #[.pointer (some ⟨K, 0, none⟩), .int .i64 q, .int .i64 inc, .agg #[.int .i64 tick, .slice A n cap]] w fun e w' => e = .returned (.bool (fits c q inc tick hs)) ∧ Below w.heap.size w w' := by
  have hl := hr.lenI
  have HL := Lib.hid hl
  have hb0 := one_box' w (.cells #[.int .i64 tick, .slice A n cap] 37)
  have hO := Blk.new w 37 #[.int .i64 tick, .slice A n cap]
  have hP := h.below hF hb0
  have hr0 := hr.below hb0
  obtain ⟨w0, hw0⟩ : ∃ w0, w0 = w.alloc (.cells #[.int .i64 tick, .slice A n cap] 37) := ⟨_, rfl⟩
  rw [← hw0] at hb0 hO hP hr0
  have hs0 := hb0.size
  have HW := Lib.hid hw0
  have HBlk := Lib.hid hO
  have HOT := Lib.hid (other_any hP hn hsf q)
  have HFE := Lib.hid (fits_eq c q inc tick hs)
  obtain ⟨c0, c1, c2, c3, c4, c5, c6⟩ := hP.cell
  have b0 : w0.cell? ⟨w.heap.size, 0, none⟩ = some (.int .i64 tick) := hO.cell 0
  have b1 : w0.cell? ⟨w.heap.size, 1, none⟩ = some (.slice A n cap) := hO.cell 1
  clear hw0 h hF hP hO hl hr c1 c2 c3 c4 c5 c6
  go_enter Try.func62, Try.ntmps62
  go_upto_region 1 with fail
  rw [← HW.out]
  go_wp2_with fail
  cases ho : otherB c q with
  | false =>
    rw [ho] at HOT
    have HX : Hid (fits c q inc tick hs = false) := Lib.hid (by rw [HFE.out, ho]; simp)
    clear ho
    refine HOT.out.mono ?_
    rintro _ _ ⟨rfl, rfl⟩
    go_wp2_with fail
    go_quiet (fail)
    go_wp2
    go_ret
    exact ⟨ret_bool HX.out.symm, below_drewN hb0 _⟩
  | true =>
  rw [ho] at HOT
  replace HFE : Hid (fits c q inc tick hs = (decide (1 ≤ inc ∧ inc ≤ 4611686018427387904) && validB c tick hs)) := Lib.hid (by rw [HFE.out, ho]; simp)
  clear ho
  refine HOT.out.mono ?_
  rintro _ _ ⟨rfl, rfl⟩
  by_cases hno : (inc < 1 ∨ 4611686018427387904 < inc) ∨ (tick < 0 ∨ 4611686018427387904 < tick) ∨ n ≠ c.n
  · have HX : Hid (fits c q inc tick hs = false) := by
      refine Lib.hid ?_
      rw [HFE.out]
      by_cases hi : 1 ≤ inc ∧ inc ≤ 4611686018427387904
      · rw [decide_eq_true hi, Bool.true_and, validB]
        by_cases ht : 0 ≤ tick ∧ tick ≤ 4611686018427387904
        · rw [decide_eq_false (show ¬ hs.length = c.n by rw [HL.out]; omega)]; simp
        · rw [decide_eq_false ht]; simp
      · rw [decide_eq_false hi]; simp
    clear HFE HOT
    by_cases i1 : inc < 1
    · clear hno
      go_wp2_with fail
      go_quiet (fail)
      go_wp2
      go_ret
      exact ⟨ret_bool HX.out.symm, below_drewN hb0 _⟩
    have e1 : decide (inc < 1) = false := decide_eq_false i1
    by_cases i2 : 4611686018427387904 < inc
    · have e2 : decide (4611686018427387904 < inc) = true := decide_eq_true i2
      have e3 : decide (inc > 4611686018427387904) = true := decide_eq_true i2
      clear hno
      go_wp2_with fail
      go_quiet (fail)
      go_wp2
      go_ret
      exact ⟨ret_bool HX.out.symm, below_drewN hb0 _⟩
    have e2 : decide (4611686018427387904 < inc) = false := decide_eq_false i2
    have e3 : decide (inc > 4611686018427387904) = false := decide_eq_false i2
    by_cases i3 : tick < 0
    · have e4 : decide (tick < 0) = true := decide_eq_true i3
      clear hno
      go_wp2_with fail
      go_quiet (fail)
      go_wp2
      go_ret
      exact ⟨ret_bool HX.out.symm, below_drewN hb0 _⟩
    have e4 : decide (tick < 0) = false := decide_eq_false i3
    by_cases i4 : 4611686018427387904 < tick
    · have e5 : decide (4611686018427387904 < tick) = true := decide_eq_true i4
      have e6 : decide (tick > 4611686018427387904) = true := decide_eq_true i4
      clear hno
      go_wp2_with fail
      go_quiet (fail)
      go_wp2
      go_ret
      exact ⟨ret_bool HX.out.symm, below_drewN hb0 _⟩
    have e5 : decide (4611686018427387904 < tick) = false := decide_eq_false i4
    have e6 : decide (tick > 4611686018427387904) = false := decide_eq_false i4
    have i5 : ((n : Int) != (c.n : Int)) = true := by simp; omega
    clear hno
    go_wp2_with fail
    go_quiet (fail)
    go_wp2
    go_ret
    exact ⟨ret_bool HX.out.symm, below_drewN hb0 _⟩
  · have i1 : ¬ inc < 1 := by omega
    have i2 : ¬ 4611686018427387904 < inc := by omega
    have i3 : ¬ tick < 0 := by omega
    have i4 : ¬ 4611686018427387904 < tick := by omega
    have e1 : decide (inc < 1) = false := decide_eq_false i1
    have e2 : decide (4611686018427387904 < inc) = false := decide_eq_false i2
    have e3 : decide (inc > 4611686018427387904) = false := decide_eq_false i2
    have e4 : decide (tick < 0) = false := decide_eq_false i3
    have e5 : decide (4611686018427387904 < tick) = false := decide_eq_false i4
    have e6 : decide (tick > 4611686018427387904) = false := decide_eq_false i4
    have i5 : ((n : Int) != (c.n : Int)) = false := by simp; omega
    have hnc : n = c.n := by omega
    have HV : Hid (fits c q inc tick hs = hs.all okV) := by
      refine Lib.hid ?_
      rw [HFE.out, decide_eq_true (show 1 ≤ inc ∧ inc ≤ 4611686018427387904 by omega), validB, decide_eq_true (show 0 ≤ tick ∧ tick ≤ 4611686018427387904 by omega), decide_eq_true (show hs.length = c.n by rw [HL.out]; exact hnc)]
      simp
    clear HFE HOT hno hnc
    go_wp2_with fail
    go_quiet (fail)
    obtain ⟨w1, hw1⟩ : ∃ w1, w1 = w0.drewN nq := ⟨_, rfl⟩
    have hb1 : Below w0.heap.size w0 w1 := by rw [hw1]; exact below_drewN (Below.refl _ _) _
    rw [← hw1]
    clear hw1 c0 b0 b1 i1 i2 i3 i4 i5 e1 e2 e3 e4 e5 e6
    go_wp2_with fail
    go_loopw [10] (fun i wr => ∃ k : Nat, k ≤ n ∧ i = .int .i64 (k : Int) ∧ Hid ((hs.take k).all okV = true) ∧ Below w0.heap.size w0 wr) (fun i _ => n - (intOf i).toNat)
    case atStart => exact ⟨0, by omega, rfl, Lib.hid (by simp), hb1⟩
    case round =>
      obtain ⟨k, hk, rfl, HA, hb⟩ := hrel
      have b1 : wr.cell? ⟨w.heap.size, 1, none⟩ = some (.slice A n cap) := (HBlk.out.over hb).cell 1
      by_cases hlt : k < n
      · obtain ⟨b, off, v, rfl, hbl, hv, hc⟩ := (hr0.below (hb.mono hs0)).int hlt
        have hI : (k : Int) < (n : Int) := by omega
        by_cases hv0 : v < 0
        · have HN := Lib.hid (all_not hv (by simp [okV]; omega))
          clear hv
          go_wp2
          go_ret
          exact ⟨ret_bool (by rw [HV.out, HN.out]), hb0.trans (hb.mono hs0)⟩
        · by_cases hv1 : 4611686018427387904 < v
          · have HN := Lib.hid (all_not hv (by simp [okV]; omega))
            clear hv
            go_wp2
            go_ret
            exact ⟨ret_bool (by rw [HV.out, HN.out]), hb0.trans (hb.mono hs0)⟩
          · have HN := Lib.hid (all_take HA.out hv (by simp [okV]; omega))
            clear hv
            go_wp2
            go_roundw
            case rel => exact ⟨k + 1, by omega, by go_num, HN, hb⟩
            case measure => simp [intOf] <;> omega
      · obtain rfl : k = n := by omega
        have HN : Hid (hs.all okV = true) := by
          have := HA.out
          rw [List.take_of_length_le (by rw [HL.out]; exact Nat.le_refl _)] at this
          exact this
        go_wp2
        go_ret
        exact ⟨ret_bool (by rw [HV.out, HN.out]), hb0.trans (hb.mono hs0)⟩
end Go.Proofs.Ytfjpmoigpnmeoaa
