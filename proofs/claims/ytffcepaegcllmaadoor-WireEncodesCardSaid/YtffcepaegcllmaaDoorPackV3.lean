/-
  A valid proposal: the program's walk and the reference's.
-/
import Derived.Test.YtffcepaegcllmaaDoorPackV2
namespace Go.Proofs.YtffcepaegcllmaaDoor
open Go.RowKit

def pairsB : List Int → List Int → Bool
  | a :: s, b :: v => !(decide (a = 0) && decide (b ≠ 0)) && pairsB s v
  | _, _ => true
theorem pairsB_snoc {s v : List Int} {k : Nat} {a b : Int} (hs : s[k]? = some a) (hv : v[k]? = some b) : pairsB (s.take (k + 1)) (v.take (k + 1)) = (pairsB (s.take k) (v.take k) && !(decide (a = 0) && decide (b ≠ 0))) := by
  induction k generalizing s v with
  | zero =>
    cases s with
    | nil => simp at hs
    | cons x s => cases v with
      | nil => simp at hv
      | cons y v =>
        simp only [List.getElem?_cons_zero, Option.some.injEq] at hs hv
        subst hs hv
        simp [pairsB]
  | succ k ih =>
    cases s with
    | nil => simp at hs
    | cons x s => cases v with
      | nil => simp at hv
      | cons y v =>
        rw [List.getElem?_cons_succ] at hs hv
        rw [List.take_succ_cons, List.take_succ_cons, List.take_succ_cons, List.take_succ_cons]
        simp only [pairsB]
        rw [ih hs hv, Bool.and_assoc]
theorem pairsB_no {s v : List Int} {k : Nat} {a b : Int} (hs : s[k]? = some a) (hv : v[k]? = some b) (h : (decide (a = 0) && decide (b ≠ 0)) = true) : pairsB s v = false := by
  induction k generalizing s v with
  | zero =>
    cases s with
    | nil => simp at hs
    | cons x s => cases v with
      | nil => simp at hv
      | cons y v =>
        simp only [List.getElem?_cons_zero, Option.some.injEq] at hs hv
        subst hs hv
        simp only [pairsB]
        rw [h]; rfl
  | succ k ih =>
    cases s with
    | nil => simp at hs
    | cons x s => cases v with
      | nil => simp at hv
      | cons y v =>
        rw [List.getElem?_cons_succ] at hs hv
        simp only [pairsB]
        rw [ih hs hv, Bool.and_false]
def propB (set : List Int) (cid rev top e l i c : Int) (vec : List Int) : Bool :=
  countsB set && countsB vec && decide (vec.length = set.length) && pairsB set vec && cntB cid 1 && cntB rev 1 && cntB top 0 && (wholeB e l i c || noneB e l i c)
set_option maxRecDepth 100000 in
set_option maxHeartbeats 3200000 in
theorem validPropose_any (As : Option Addr) (ns ks : Nat) (set : List Int) (cid rev top e l i c : Int) (Av : Option Addr) (nv kv : Nat) (vec : List Int) (w : World) (hs : RdI w w.heap.size As ns set) (hv : RdI w w.heap.size Av nv vec) (hns : ns ≤ 140737488351232) (hnv : nv ≤ 140737488351232) :
    Calls Tryd.prog 92 #[.agg #[.slice As ns ks, .int .i64 cid, .int .i64 rev, .int .i64 top, .int .i64 e, .int .i64 l, .int .i64 i, .int .i64 c, .slice Av nv kv]] w fun r w' => r = .returned (.bool (propB set cid rev top e l i c vec)) ∧ Below w.heap.size w w' := by
  have HLS := Lib.hid hs.lenI
  have HLV := Lib.hid hv.lenI
  have hb0 := one_box w (.cells #[.slice As ns ks, .int .i64 cid, .int .i64 rev, .int .i64 top, .int .i64 e, .int .i64 l, .int .i64 i, .int .i64 c, .slice Av nv kv] 30)
  have hO := Blk.new w 30 #[.slice As ns ks, .int .i64 cid, .int .i64 rev, .int .i64 top, .int .i64 e, .int .i64 l, .int .i64 i, .int .i64 c, .slice Av nv kv]
  obtain ⟨w0, hw0⟩ : ∃ w0, w0 = w.alloc (.cells #[.slice As ns ks, .int .i64 cid, .int .i64 rev, .int .i64 top, .int .i64 e, .int .i64 l, .int .i64 i, .int .i64 c, .slice Av nv kv] 30) := ⟨_, rfl⟩
  rw [← hw0] at hb0 hO
  have hz0 : w0.heap.size = w.heap.size + 1 := by rw [hw0]; simp
  have HW0 := Lib.hid hw0
  clear hw0
  have hs0 := hs.below hb0
  have hv0 := hv.below hb0
  have q0 : w0.cell? ⟨w.heap.size, 0, none⟩ = some (.slice As ns ks) := by rw [hO.cell]; rfl
  have q1 : w0.cell? ⟨w.heap.size, 1, none⟩ = some (.int .i64 cid) := by rw [hO.cell]; rfl
  have q2 : w0.cell? ⟨w.heap.size, 2, none⟩ = some (.int .i64 rev) := by rw [hO.cell]; rfl
  have q3 : w0.cell? ⟨w.heap.size, 3, none⟩ = some (.int .i64 top) := by rw [hO.cell]; rfl
  have q4 : w0.cell? ⟨w.heap.size, 4, none⟩ = some (.int .i64 e) := by rw [hO.cell]; rfl
  have q5 : w0.cell? ⟨w.heap.size, 5, none⟩ = some (.int .i64 l) := by rw [hO.cell]; rfl
  have q6 : w0.cell? ⟨w.heap.size, 6, none⟩ = some (.int .i64 i) := by rw [hO.cell]; rfl
  have q7 : w0.cell? ⟨w.heap.size, 7, none⟩ = some (.int .i64 c) := by rw [hO.cell]; rfl
  have q8 : w0.cell? ⟨w.heap.size, 8, none⟩ = some (.slice Av nv kv) := by rw [hO.cell]; rfl
  by_cases h1 : countsB set = true
  · have H1 := Lib.hid h1
    clear h1
    by_cases h2 : countsB vec = true
    · have H2 := Lib.hid h2
      clear h2
      by_cases h3 : nv = ns
      · have h3I : ((nv : Int) != (ns : Int)) = false := by simp; omega
        have h3b : nv ≤ ns := by omega
        have H3 := Lib.hid h3
        clear h3
        go_enter Tryd.func92, Tryd.ntmps92
        go_wp2_with fail
        rw [← HW0.out]
        refine (vcounts_any _ _ _ _ set _ hs0 (by omega)).mono ?_
        rintro _ _ ⟨he, rfl⟩
        rw [H1.out] at he
        subst he
        go_wp2_with fail
        refine (vcounts_any _ _ _ _ vec _ hv0 (by omega)).mono ?_
        rintro _ _ ⟨he, rfl⟩
        rw [H2.out] at he
        subst he
        go_wp2_with fail
        go_loop [3, 4, 27] (fun _ _ i => ∃ k : Nat, k ≤ nv ∧ i = .int .i64 (k : Int) ∧ Hid (pairsB (set.take k) (vec.take k) = true)) (fun _ _ i => nv - (intOf i).toNat)
        case atStart => exact ⟨0, by omega, rfl, rfl⟩
        case round =>
          obtain ⟨k, hk, rfl, HA⟩ := hrel
          by_cases hlt : k < nv
          · obtain ⟨b1, o1, x, rfl, hb1, hx, cx⟩ := hs0.int (k := k) (by omega)
            obtain ⟨b2, o2, y, rfl, hb2, hy, cy⟩ := hv0.int (k := k) hlt
            have hltI : (k : Int) < (nv : Int) := by omega
            have hltI2 : (k : Int) < (ns : Int) := by have := H3.out; omega
            have HXX := Lib.hid hx
            have HYY := Lib.hid hy
            clear hx hy
            by_cases hx0 : x = 0
            · have ex : (x == 0) = true := by simpa using hx0
              by_cases hy0 : y = 0
              · have ey : (y != 0) = false := by simpa using hy0
                have HN := Lib.hid (show pairsB (set.take (k + 1)) (vec.take (k + 1)) = true by rw [pairsB_snoc HXX.out HYY.out, HA.out, hx0, hy0]; rfl)
                clear hx0 hy0
                go_wp2
                go_round
                case rel => exact ⟨k + 1, by omega, by go_num, HN.out⟩
                case measure => simp [intOf] <;> omega
              · have ey : (y != 0) = true := by simpa using hy0
                have HN := Lib.hid (show pairsB set vec = false from pairsB_no HXX.out HYY.out (by simp [hx0, hy0]))
                clear hx0 hy0
                go_wp2
                go_ret
                refine ⟨ret_bool ?_, hb0⟩
                unfold propB
                rw [HN.out]
                simp
            · have ex : (x == 0) = false := by simpa using hx0
              have HN := Lib.hid (show pairsB (set.take (k + 1)) (vec.take (k + 1)) = true by rw [pairsB_snoc HXX.out HYY.out, HA.out]; simp [hx0])
              clear hx0
              go_wp2
              all_goals go_round
              all_goals (first | (refine ⟨k + 1, by omega, by go_num, HN.out⟩) | (simp [intOf] <;> omega))
          · obtain rfl : k = nv := by omega
            have hA : pairsB set vec = true := by
              have := HA.out
              rw [List.take_of_length_le (by rw [HLS.out]; have := H3.out; omega), List.take_of_length_le (by rw [HLV.out]; exact Nat.le_refl _)] at this
              exact this
            have HAL := Lib.hid hA
            clear hA
            have hgeI : ¬ (k : Int) < (ns : Int) := by have := H3.out; omega
            go_wp2_with (first
              | (go_at_call 90; refine (count_any _ _ _).mono ?_; rintro _ _ ⟨rfl, rfl⟩)
              | (go_at_call 94; refine (whole_any _ _ _ _ _).mono ?_; rintro _ w2 ⟨rfl, hb2⟩; have hO2 := hO.over hb2; have r4 : w2.cell? ⟨w.heap.size, 4, none⟩ = some (.int .i64 e) := hO2.cell 4; have r5 : w2.cell? ⟨w.heap.size, 5, none⟩ = some (.int .i64 l) := hO2.cell 5; have r6 : w2.cell? ⟨w.heap.size, 6, none⟩ = some (.int .i64 i) := hO2.cell 6; have r7 : w2.cell? ⟨w.heap.size, 7, none⟩ = some (.int .i64 c) := hO2.cell 7))
            all_goals go_ret
            all_goals refine ⟨ret_bool ?_, ?_⟩
            all_goals try first | exact hb0 | exact Below.then hb0 hb2
            all_goals
              have h1 := HAL.out
              have h2 := H1.out
              have h3 := H2.out
              have h4 := HLS.out
              have h5 := HLV.out
              simp_all [propB, noneB] <;> omega
      · have h3I : ((nv : Int) != (ns : Int)) = true := by simp; omega
        go_enter Tryd.func92, Tryd.ntmps92
        go_wp2_with fail
        rw [← HW0.out]
        refine (vcounts_any _ _ _ _ set _ hs0 (by omega)).mono ?_
        rintro _ _ ⟨he, rfl⟩
        rw [H1.out] at he
        subst he
        go_wp2_with fail
        refine (vcounts_any _ _ _ _ vec _ hv0 (by omega)).mono ?_
        rintro _ _ ⟨he, rfl⟩
        rw [H2.out] at he
        subst he
        go_wp2
        go_ret
        refine ⟨ret_bool ?_, hb0⟩
        have e0 := HLS.out
        have e1 := HLV.out
        unfold propB
        rw [e0, e1]
        simp [h3]
    · have H2 := Lib.hid (show countsB vec = false by simpa using h2)
      clear h2
      go_enter Tryd.func92, Tryd.ntmps92
      go_wp2_with fail
      rw [← HW0.out]
      refine (vcounts_any _ _ _ _ set _ hs0 (by omega)).mono ?_
      rintro _ _ ⟨he, rfl⟩
      rw [H1.out] at he
      subst he
      go_wp2_with fail
      refine (vcounts_any _ _ _ _ vec _ hv0 (by omega)).mono ?_
      rintro _ _ ⟨he, rfl⟩
      rw [H2.out] at he
      subst he
      go_wp2
      go_ret
      refine ⟨ret_bool ?_, hb0⟩
      have e0 := HLS.out
      have e1 := HLV.out
      simp [propB, H2.out]
  · have H1 := Lib.hid (show countsB set = false by simpa using h1)
    clear h1
    go_enter Tryd.func92, Tryd.ntmps92
    go_wp2_with fail
    rw [← HW0.out]
    refine (vcounts_any _ _ _ _ set _ hs0 (by omega)).mono ?_
    rintro _ _ ⟨he, rfl⟩
    rw [H1.out] at he
    subst he
    go_wp2
    go_ret
    refine ⟨ret_bool ?_, hb0⟩
    have e0 := HLS.out
    have e1 := HLV.out
    simp [propB, H1.out]
set_option maxRecDepth 100000 in
set_option maxHeartbeats 3200000 in
theorem goodPropose_any (As : Option Addr) (ns ks : Nat) (set : List Int) (cid rev top e l i c : Int) (Av : Option Addr) (nv kv : Nat) (vec : List Int) (w : World) (hs : RdI w w.heap.size As ns set) (hv : RdI w w.heap.size Av nv vec) (hns : ns ≤ 140737488351232) (hnv : nv ≤ 140737488351232) :
    Calls Tryd.prog 76 #[.agg #[.slice As ns ks, .int .i64 cid, .int .i64 rev, .int .i64 top, .int .i64 e, .int .i64 l, .int .i64 i, .int .i64 c, .slice Av nv kv]] w fun r w' => r = .returned (.bool (propB set cid rev top e l i c vec)) ∧ Below w.heap.size w w' := by
  have HLS := Lib.hid hs.lenI
  have HLV := Lib.hid hv.lenI
  have hb0 := one_box w (.cells #[.slice As ns ks, .int .i64 cid, .int .i64 rev, .int .i64 top, .int .i64 e, .int .i64 l, .int .i64 i, .int .i64 c, .slice Av nv kv] 30)
  have hO := Blk.new w 30 #[.slice As ns ks, .int .i64 cid, .int .i64 rev, .int .i64 top, .int .i64 e, .int .i64 l, .int .i64 i, .int .i64 c, .slice Av nv kv]
  obtain ⟨w0, hw0⟩ : ∃ w0, w0 = w.alloc (.cells #[.slice As ns ks, .int .i64 cid, .int .i64 rev, .int .i64 top, .int .i64 e, .int .i64 l, .int .i64 i, .int .i64 c, .slice Av nv kv] 30) := ⟨_, rfl⟩
  rw [← hw0] at hb0 hO
  have hz0 : w0.heap.size = w.heap.size + 1 := by rw [hw0]; simp
  have HW0 := Lib.hid hw0
  clear hw0
  have hs0 := hs.below hb0
  have hv0 := hv.below hb0
  have q0 : w0.cell? ⟨w.heap.size, 0, none⟩ = some (.slice As ns ks) := by rw [hO.cell]; rfl
  have q1 : w0.cell? ⟨w.heap.size, 1, none⟩ = some (.int .i64 cid) := by rw [hO.cell]; rfl
  have q2 : w0.cell? ⟨w.heap.size, 2, none⟩ = some (.int .i64 rev) := by rw [hO.cell]; rfl
  have q3 : w0.cell? ⟨w.heap.size, 3, none⟩ = some (.int .i64 top) := by rw [hO.cell]; rfl
  have q4 : w0.cell? ⟨w.heap.size, 4, none⟩ = some (.int .i64 e) := by rw [hO.cell]; rfl
  have q5 : w0.cell? ⟨w.heap.size, 5, none⟩ = some (.int .i64 l) := by rw [hO.cell]; rfl
  have q6 : w0.cell? ⟨w.heap.size, 6, none⟩ = some (.int .i64 i) := by rw [hO.cell]; rfl
  have q7 : w0.cell? ⟨w.heap.size, 7, none⟩ = some (.int .i64 c) := by rw [hO.cell]; rfl
  have q8 : w0.cell? ⟨w.heap.size, 8, none⟩ = some (.slice Av nv kv) := by rw [hO.cell]; rfl
  by_cases h0 : withinB (ns : Int) 1 16 = true
  · have HW1 := Lib.hid h0
    clear h0
    by_cases h3 : nv = ns
    · have h3I : ((nv : Int) != (ns : Int)) = false := by simp; omega
      have h3b : nv ≤ ns := by omega
      have H3 := Lib.hid h3
      clear h3
      by_cases h1 : allB set = true
      · have HS1 := Lib.hid h1
        clear h1
        by_cases h2 : allB vec = true
        · have HV1 := Lib.hid h2
          clear h2
          have H1 : Hid (countsB set = true) := by
            show _ = true
            have h4 := HW1.out
            have e1 := HLS.out
            simp only [withinB, Bool.and_eq_true, decide_eq_true_eq] at h4
            simp [countsB, HS1.out, e1]
            omega
          have H2 : Hid (countsB vec = true) := by
            show _ = true
            have h4 := HW1.out
            have e1 := HLV.out
            have e3 := H3.out
            simp only [withinB, Bool.and_eq_true, decide_eq_true_eq] at h4
            simp [countsB, HV1.out, e1]
            omega
          go_enter Tryd.func76, Tryd.ntmps76
          go_wp2_with fail
          rw [← HW0.out]
          refine (Within_any _ _ _ _).mono ?_
          rintro _ _ ⟨he, rfl⟩
          rw [HW1.out] at he
          subst he
          go_wp2_with fail
          refine (rcounts_any _ _ _ _ set _ hs0 (by omega)).mono ?_
          rintro _ _ ⟨he, rfl⟩
          rw [HS1.out] at he
          subst he
          go_wp2_with fail
          refine (rcounts_any _ _ _ _ vec _ hv0 (by omega)).mono ?_
          rintro _ _ ⟨he, rfl⟩
          rw [HV1.out] at he
          subst he
          go_wp2_with fail
          go_loop [3] (fun i => ∃ k : Nat, k ≤ nv ∧ i = .int .i64 (k : Int) ∧ Hid (pairsB (set.take k) (vec.take k) = true)) (fun i => nv - (intOf i).toNat)
          case atStart => exact ⟨0, by omega, rfl, rfl⟩
          case round =>
            obtain ⟨k, hk, rfl, HA⟩ := hrel
            by_cases hlt : k < nv
            · obtain ⟨b1, o1, x, rfl, hb1, hx, cx⟩ := hs0.int (k := k) (by omega)
              obtain ⟨b2, o2, y, rfl, hb2, hy, cy⟩ := hv0.int (k := k) hlt
              have hltI : (k : Int) < (nv : Int) := by omega
              have hltI2 : (k : Int) < (ns : Int) := by have := H3.out; omega
              have HXX := Lib.hid hx
              have HYY := Lib.hid hy
              clear hx hy
              by_cases hx0 : x = 0
              · have ex : (x == 0) = true := by simpa using hx0
                by_cases hy0 : y = 0
                · have ey : (y != 0) = false := by simpa using hy0
                  have HN := Lib.hid (show pairsB (set.take (k + 1)) (vec.take (k + 1)) = true by rw [pairsB_snoc HXX.out HYY.out, HA.out, hx0, hy0]; rfl)
                  clear hx0 hy0
                  go_wp2
                  go_round
                  case rel => exact ⟨k + 1, by omega, by go_num, HN.out⟩
                  case measure => simp [intOf] <;> omega
                · have ey : (y != 0) = true := by simpa using hy0
                  have HN := Lib.hid (show pairsB set vec = false from pairsB_no HXX.out HYY.out (by simp [hx0, hy0]))
                  clear hx0 hy0
                  go_wp2
                  go_ret
                  refine ⟨ret_bool ?_, hb0⟩
                  unfold propB
                  rw [HN.out]
                  simp
              · have ex : (x == 0) = false := by simpa using hx0
                have HN := Lib.hid (show pairsB (set.take (k + 1)) (vec.take (k + 1)) = true by rw [pairsB_snoc HXX.out HYY.out, HA.out]; simp [hx0])
                clear hx0
                go_wp2
                all_goals go_round
                all_goals (first | (refine ⟨k + 1, by omega, by go_num, HN.out⟩) | (simp [intOf] <;> omega))
            · obtain rfl : k = nv := by omega
              have hA : pairsB set vec = true := by
                have := HA.out
                rw [List.take_of_length_le (by rw [HLS.out]; have := H3.out; omega), List.take_of_length_le (by rw [HLV.out]; exact Nat.le_refl _)] at this
                exact this
              have HAL := Lib.hid hA
              clear hA
              have hgeI : ¬ (k : Int) < (ns : Int) := by have := H3.out; omega
              go_wp2_with (first
                | (go_at_call 73; refine (Within_any _ _ _ _).mono ?_; rintro _ _ ⟨he, rfl⟩; rw [within_cnt] at he; subst he)
                | (go_at_call 123; refine (Whole_any _ _ _ _ _).mono ?_; rintro _ w2 ⟨rfl, hb2⟩; have hO2 := hO.over hb2; have r4 : w2.cell? ⟨w.heap.size, 4, none⟩ = some (.int .i64 e) := hO2.cell 4; have r5 : w2.cell? ⟨w.heap.size, 5, none⟩ = some (.int .i64 l) := hO2.cell 5; have r6 : w2.cell? ⟨w.heap.size, 6, none⟩ = some (.int .i64 i) := hO2.cell 6; have r7 : w2.cell? ⟨w.heap.size, 7, none⟩ = some (.int .i64 c) := hO2.cell 7; have hl2 := hO2.lt)
                | (go_at_call 121; refine (None_any _ _ _ _ _).mono ?_; rintro _ w3 ⟨rfl, hb3⟩))
              all_goals go_ret
              all_goals refine ⟨ret_bool ?_, ?_⟩
              all_goals try first | exact hb0 | exact Below.then hb0 hb2 | exact Below.then hb0 (Below.then hb2 hb3)
              all_goals
                have h1 := HAL.out
                have h2 := H1.out
                have h3 := H2.out
                have h4 := HLS.out
                have h5 := HLV.out
                simp_all [propB] <;> omega
        · have HV1 := Lib.hid (show allB vec = false by simpa using h2)
          clear h2
          go_enter Tryd.func76, Tryd.ntmps76
          go_wp2_with fail
          rw [← HW0.out]
          refine (Within_any _ _ _ _).mono ?_
          rintro _ _ ⟨he, rfl⟩
          rw [HW1.out] at he
          subst he
          go_wp2_with fail
          refine (rcounts_any _ _ _ _ set _ hs0 (by omega)).mono ?_
          rintro _ _ ⟨he, rfl⟩
          rw [HS1.out] at he
          subst he
          go_wp2_with fail
          refine (rcounts_any _ _ _ _ vec _ hv0 (by omega)).mono ?_
          rintro _ _ ⟨he, rfl⟩
          rw [HV1.out] at he
          subst he
          go_wp2
          go_ret
          refine ⟨ret_bool ?_, hb0⟩
          have e0 := HLS.out
          have e1 := HLV.out
          simp [propB, countsB, HV1.out]
      · have HS1 := Lib.hid (show allB set = false by simpa using h1)
        clear h1
        go_enter Tryd.func76, Tryd.ntmps76
        go_wp2_with fail
        rw [← HW0.out]
        refine (Within_any _ _ _ _).mono ?_
        rintro _ _ ⟨he, rfl⟩
        rw [HW1.out] at he
        subst he
        go_wp2_with fail
        refine (rcounts_any _ _ _ _ set _ hs0 (by omega)).mono ?_
        rintro _ _ ⟨he, rfl⟩
        rw [HS1.out] at he
        subst he
        go_wp2
        go_ret
        refine ⟨ret_bool ?_, hb0⟩
        have e0 := HLS.out
        have e1 := HLV.out
        simp [propB, countsB, HS1.out]
    · have h3I : ((nv : Int) != (ns : Int)) = true := by simp; omega
      go_enter Tryd.func76, Tryd.ntmps76
      go_wp2_with fail
      rw [← HW0.out]
      refine (Within_any _ _ _ _).mono ?_
      rintro _ _ ⟨he, rfl⟩
      rw [HW1.out] at he
      subst he
      go_wp2
      go_ret
      refine ⟨ret_bool ?_, hb0⟩
      have e0 := HLS.out
      have e1 := HLV.out
      unfold propB
      rw [e0, e1]
      simp [h3]
  · have HW1 := Lib.hid (show withinB (ns : Int) 1 16 = false by simpa using h0)
    clear h0
    go_enter Tryd.func76, Tryd.ntmps76
    go_wp2_with fail
    rw [← HW0.out]
    refine (Within_any _ _ _ _).mono ?_
    rintro _ _ ⟨he, rfl⟩
    rw [HW1.out] at he
    subst he
    go_wp2
    go_ret
    refine ⟨ret_bool ?_, hb0⟩
    have e0 := HLS.out
    have e1 := HLV.out
    have h4 := HW1.out
    simp only [withinB, Bool.and_eq_false_iff, decide_eq_false_iff_not] at h4
    have : countsB set = false := by
      simp only [countsB, e0, Bool.and_eq_false_iff, decide_eq_false_iff_not]
      omega
    simp [propB, this]
end Go.Proofs.YtffcepaegcllmaaDoor
