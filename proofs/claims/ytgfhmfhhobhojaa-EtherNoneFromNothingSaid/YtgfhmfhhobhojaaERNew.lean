/-
  The document's New.
-/
import Derived.Test.YtgfhmfhhobhojaaERefZ
namespace Go.Proofs.Ytgfhmfhhobhojaa
open Go.ChangeShapes Go.WideShapes Go.ChangeAt Go.RowKit
variable {w : World}
def zeroF (i : Nat) : Value := if i < 3 then .int .i64 0 else if i < 19 then .bool false else if i < 51 then .int .i64 0 else if i < 307 then .bool false else if i < 563 then .int .i64 0 else .slice none 0 0
theorem zero_cells : Try.zeroCells106 = rg 564 zeroF := by kernel_rfl
def RV.newB (u s l : Nat) : RV := ⟨0, fun j => decide (j < u), fun j => if j < u then 1 else 0, fun _ => 0, fun _ _ => false, fun a b => if (a < s ∨ (a = s ∧ b < l)) ∧ b < 16 then 1 else 0, []⟩
def RV.new : RV := RV.newB 16 16 0
theorem new_cells (c : ECfg) : (Try.zeroCells106.setIfInBounds 0 (.int .i64 (c.n : Int))).setIfInBounds 1 (.int .i64 (c.room : Int)) = rg 564 (netF c (RV.newB 0 0 0) (.slice none 0 0)) := by
  rw [zero_cells]
  rw [rg_set (g := fun i => if i = 0 then .int .i64 (c.n : Int) else zeroF i) (by simp) fun j _ hj => by simp [hj]]
  refine rg_set (by simp [netF]) fun j _ hj => ?_
  unfold netF zeroF RV.newB
  dsimp only
  by_cases h0 : j = 0
  · simp [h0]
  · by_cases h2 : j = 2
    · simp [h2]
    · have h3 : ¬ j < 3 := by omega
      simp only [h0, h2, hj, h3, if_false]
      by_cases h5 : j < 35
      · have h6 : j < 51 := by omega
        simp [h5, h6]
      · simp [h5]
theorem newB_node (k : Nat) : ({ RV.newB k k 0 with up := updB (RV.newB k k 0).up k true, inc := updN (RV.newB k k 0).inc k 1 } : RV) = RV.newB (k + 1) k 0 := by
  have h1 : updB (RV.newB k k 0).up k true = (RV.newB (k + 1) k 0).up := by
    funext j
    simp only [updB, RV.newB]
    by_cases h : j = k
    · rw [if_pos h]; simp [h]
    · rw [if_neg h]
      have : (j < k) = (j < k + 1) := by apply propext; omega
      simp only [this]
  have h2 : updN (RV.newB k k 0).inc k 1 = (RV.newB (k + 1) k 0).inc := by
    funext j
    simp only [updN, RV.newB]
    by_cases h : j = k
    · rw [if_pos h, if_pos (by omega)]
    · rw [if_neg h]
      have : (j < k) = (j < k + 1) := by apply propext; omega
      simp only [this]
  rw [h1, h2]
  rfl
theorem newB_path {k l : Nat} (hl : l < 16) : ({ RV.newB (k + 1) k l with slow := upd2 (RV.newB (k + 1) k l).slow k l 1 } : RV) = RV.newB (k + 1) k (l + 1) := by
  have h1 : upd2 (RV.newB (k + 1) k l).slow k l 1 = (RV.newB (k + 1) k (l + 1)).slow := by
    funext a b
    simp only [upd2, RV.newB]
    by_cases h : a = k ∧ b = l
    · rw [if_pos h, if_pos (by omega)]
    · rw [if_neg h]
      have : ((a < k ∨ (a = k ∧ b < l)) ∧ b < 16) = ((a < k ∨ (a = k ∧ b < l + 1)) ∧ b < 16) := by apply propext; omega
      simp only [this]
  rw [h1]
  rfl
theorem newB_row (k : Nat) : RV.newB (k + 1) k 16 = RV.newB (k + 1) (k + 1) 0 := by
  unfold RV.newB
  have h : (fun a b : Nat => if (a < k ∨ (a = k ∧ b < 16)) ∧ b < 16 then (1 : Nat) else 0) = fun a b => if (a < k + 1 ∨ (a = k + 1 ∧ b < 0)) ∧ b < 16 then 1 else 0 := by
    funext a b
    have : ((a < k ∨ (a = k ∧ b < 16)) ∧ b < 16) = ((a < k + 1 ∨ (a = k + 1 ∧ b < 0)) ∧ b < 16) := by apply propext; omega
    simp only [this]
  rw [h]
structure NewS (w : World) (c : ECfg) (D : Nat) (r : RV) (wr : World) : Prop where
  rn : RN wr (fun k => k = D) c D r (.slice none 0 0) []
  below : Below w.heap.size w wr
  lt : D < wr.heap.size
theorem NewS.put {wr : World} {c : ECfg} {D i : Nat} {r r' : RV} {u : Value} (h : NewS w c D r wr) (hD : w.heap.size ≤ D) (he : (rg 564 (netF c r (.slice none 0 0))).setIfInBounds i u = rg 564 (netF c r' (.slice none 0 0))) (ha : r'.all = r.all) : NewS w c D r' (wr.setCell ⟨D, i, none⟩ u) :=
  ⟨h.rn.setD he ha, h.below.setCell (p := ⟨D, i, none⟩) hD u, by have := h.lt; simpa [World.setCell] using this⟩
def RNewP (w : World) (c : ECfg) (e : Ending) (w' : World) : Prop := ∃ D F, e = .returned (.tuple #[.pointer (some ⟨D, 0, none⟩), .int .i64 0]) ∧ RNx w' F c D RV.new ∧ (∀ k, F k → w.heap.size ≤ k) ∧ Below w.heap.size w w'
set_option maxRecDepth 100000 in
set_option maxHeartbeats 3200000 in
theorem RNew_yes (c : ECfg) (hc : c.Ok) : Calls Try.prog 29 #[.int .i64 (c.n : Int), .int .i64 (c.room : Int)] w (RNewP w c) := by
  obtain ⟨h1, h2, h3, h4⟩ := hc
  have a1 : ¬ (c.n : Int) < 1 := by omega
  have a2 : ¬ (c.n : Int) > 16 := by omega
  have a3 : ¬ (c.room : Int) < 1 := by omega
  have a4 : ¬ (c.room : Int) > 20000 := by omega
  obtain ⟨D, hDs⟩ : ∃ D, D = w.heap.size := ⟨_, rfl⟩
  obtain ⟨w0, hw0⟩ : ∃ w0, w0 = w.alloc (.cells ((Try.zeroCells106.setIfInBounds 0 (.int .i64 (c.n : Int))).setIfInBounds 1 (.int .i64 (c.room : Int))) 106) := ⟨_, rfl⟩
  have HST : Hid (NewS w c D (RV.newB 0 0 0) w0) := by
    have hB := Blk.new w 106 (rg 564 (netF c (RV.newB 0 0 0) (.slice none 0 0)))
    have hb := one_box' w (.cells (rg 564 (netF c (RV.newB 0 0 0) (.slice none 0 0))) 106)
    rw [← new_cells c, ← hw0, ← hDs] at hB
    rw [← new_cells c, ← hw0] at hb
    rw [new_cells c] at hB
    exact Lib.hid ⟨⟨hB, rfl, ⟨rfl, .inl ⟨rfl, rfl⟩⟩, fun x hx => absurd hx (by simp), by simp, rfl, fun g h => by simp [Value.ownBlock] at h, fun x hx => absurd hx (by simp)⟩, hb, hB.lt⟩
  have HW0 := Lib.hid hw0
  have HD := Lib.hid hDs
  clear hw0
  go_enter Try.func29, Try.ntmps29
  go_upto_region 4 with fail
  rw [← HW0.out]
  rw [← hDs]
  clear hDs
  go_wp2_with fail
  go_loopw [7] (fun i wr => ∃ k : Nat, k ≤ 16 ∧ i = .int .i64 (k : Int) ∧ Hid (NewS w c D (RV.newB k k 0) wr)) (fun i _ => 16 - (intOf i).toNat)
  case atStart => exact ⟨0, by omega, rfl, HST⟩
  case round =>
    clear HST
    obtain ⟨k, hk, rfl, HT⟩ := hrel
    by_cases hlt : k < 16
    · have hI : (k : Int) < 16 := by omega
      obtain ⟨n0, n1, n2⟩ := HT.out.rn.node hlt
      have f0 : wr.frozen? ⟨D, 3 + k, none⟩ = false := HT.out.rn.blk.frozen _
      obtain ⟨w1, hw1⟩ : ∃ w1, w1 = wr.setCell ⟨D, 3 + k, none⟩ (.bool true) := ⟨_, rfl⟩
      have hT1 : NewS w c D { RV.newB k k 0 with up := updB (RV.newB k k 0).up k true } w1 := by rw [hw1]; exact HT.out.put (by rw [HD.out]; exact Nat.le_refl _) (net_up c _ _ hlt true) rfl
      obtain ⟨_, m1, _⟩ := hT1.rn.node hlt
      have f1 : w1.frozen? ⟨D, 19 + k, none⟩ = false := hT1.rn.blk.frozen _
      obtain ⟨w2, hw2⟩ : ∃ w2, w2 = w1.setCell ⟨D, 19 + k, none⟩ (.int .i64 1) := ⟨_, rfl⟩
      have HT2 : Hid (NewS w c D (RV.newB (k + 1) k 0) w2) := Lib.hid (by
        have h1 := hT1.put (by rw [HD.out]; exact Nat.le_refl _) (net_inc c _ (.slice none 0 0) hlt 1) rfl
        rw [← newB_node k, hw2]
        exact h1)
      have HW1 := Lib.hid hw1
      have HW2 := Lib.hid hw2
      clear hw1 hw2 hT1 n1 n2
      go_upto_region 8 with fail
      rw [← HW1.out]
      clear n0 f0
      go_upto_region 9 with fail
      rw [← HW2.out]
      clear m1 f1
      go_wp2_with fail
      go_loopw [8] (fun i wr => ∃ l : Nat, l ≤ 16 ∧ i = .int .i64 (l : Int) ∧ Hid (NewS w c D (RV.newB (k + 1) k l) wr)) (fun i _ => 16 - (intOf i).toNat)
      case atStart => exact ⟨0, by omega, rfl, HT2⟩
      case round =>
        clear HT2 HW1 HW2
        obtain ⟨l, hl, rfl, HR⟩ := hrel
        by_cases hlt2 : l < 16
        · have hI2 : (l : Int) < 16 := by omega
          obtain ⟨_, p1⟩ := HR.out.rn.path hlt hlt2
          have f2 : wr.frozen? ⟨D, 307 + k * 16 + l, none⟩ = false := HR.out.rn.blk.frozen _
          have HN : Hid (NewS w c D (RV.newB (k + 1) k (l + 1)) (wr.setCell ⟨D, 307 + k * 16 + l, none⟩ (.int .i64 1))) := Lib.hid (by
            have h1 := HR.out.put (by rw [HD.out]; exact Nat.le_refl _) (net_slow c _ (.slice none 0 0) hlt hlt2 1) rfl
            rw [← newB_path hlt2]
            exact h1)
          go_wp2
          go_roundw
          case rel => exact ⟨l + 1, by omega, by go_num, HN⟩
          case measure => simp [intOf] <;> omega
        · obtain rfl : l = 16 := by omega
          have HN : Hid (NewS w c D (RV.newB (k + 1) (k + 1) 0) wr) := Lib.hid (by rw [← newB_row]; exact HR.out)
          go_wp2
          go_roundw
          case rel => exact ⟨k + 1, by omega, by go_num, HN⟩
          case measure => simp [intOf] <;> omega
    · obtain rfl : k = 16 := by omega
      have HE : Hid (RNewP w c (.returned (.tuple #[.pointer (some ⟨D, 0, none⟩), .int .i64 0])) wr) := Lib.hid ⟨D, _, rfl, ⟨fun j hj => by rw [hj]; exact HT.out.lt, _, _, HT.out.rn⟩, fun j hj => by rw [hj, HD.out]; exact Nat.le_refl _, HT.out.below⟩
      go_wp2
      go_ret2
      exact HE.out
set_option maxRecDepth 100000 in
theorem RNew_no (n r : Int) (hno : ¬ NetOk n r) : Calls Try.prog 29 #[.int .i64 n, .int .i64 r] w fun e w' => e = .returned (.tuple #[.pointer none, .int .i64 1]) ∧ w = w' := by
  by_cases h1 : n < 1
  · go_enter Try.func29, Try.ntmps29
    go_wp2
    go_ret2
    exact ⟨rfl, rfl⟩
  · by_cases h2 : n > 16
    · go_enter Try.func29, Try.ntmps29
      go_wp2
      go_ret2
      exact ⟨rfl, rfl⟩
    · by_cases h3 : r < 1
      · go_enter Try.func29, Try.ntmps29
        go_wp2
        go_ret2
        exact ⟨rfl, rfl⟩
      · have h4 : r > 20000 := by unfold NetOk at hno; omega
        go_enter Try.func29, Try.ntmps29
        go_wp2
        go_ret2
        exact ⟨rfl, rfl⟩
end Go.Proofs.Ytgfhmfhhobhojaa
