/-
  EtherRefusals' helpers: is.
-/
import Derived.Test.YtgfhmfhhobhojaaELook
namespace Go.Proofs.Ytgfhmfhhobhojaa
open Go.ChangeShapes Go.WideShapes Go.ChangeAt Go.RowKit
theorem eqItems_true {P : Program} {W : World} (d : Nat) (e : TypeId) (c : Nat) (X : Array Value) : ∀ l : List Nat, (∀ i ∈ l, ∃ v, (part e X (i * c)).run P W = .ok v W ∧ (Op.equalIn d e v v).run P W = .ok true W) → (Op.eqItems d e c X X l).run P W = .ok true W
  | [], _ => by simp [Op.eqItems]
  | i :: l, h => by
    obtain ⟨v, h1, h2⟩ := h i (by simp)
    have ih := eqItems_true d e c X l fun j hj => h j (by simp [hj])
    simp only [Op.eqItems, Sem.run_bind, h1, h2, Result.andThen_ok, Bool.not_true, Bool.false_eq_true, if_false]
    exact ih
theorem part_one {P : Program} {W : World} {e : TypeId} {k : TypeDesc} (hu : P.underlying e = some k) (hk : k.isRow = false) {X : Array Value} {j : Nat} {v : Value} (hv : X[j]? = some v) : (part e X j).run P W = .ok v W := by
  have hagg : (isAgg e).run P W = .ok false W := by
    unfold isAgg
    rw [Sem.run_bind, run_underlying hu W]
    cases k <;> simp_all
  unfold part
  simp only [Sem.run_bind, hagg, Result.andThen_ok, Bool.false_eq_true, if_false, hv, Sem.run_pure]
theorem part_row {P : Program} {W : World} {e e2 : TypeId} {n : Nat} {i : TypeInfo} (hu : P.underlying e = some (.array n e2)) (hi : P.info? e = some i) {X : Array Value} {j : Nat} : (part e X j).run P W = .ok (.agg (X.extract j (j + P.cellsOf e))) W := by
  have hagg : (isAgg e).run P W = .ok true W := by
    unfold isAgg
    rw [Sem.run_bind, run_underlying hu W]
    simp
  unfold part
  simp only [Sem.run_bind, hagg, Result.andThen_ok, if_true, run_sizeOf W hi, Sem.run_pure]
section
variable {W : World}
theorem eq70 (d : Nat) (X : Array Value) (h : ∀ j, j < 17 → ∃ b, X[j]? = some (.bool b)) : (Op.equalIn (d + 2) 70 (.agg X) (.agg X)).run Try.prog W = .ok true W := by
  have hc : (Try.prog.cellsOf 4) = 1 := by kernel_rfl
  obtain ⟨i, hi⟩ := Option.isSome_iff_exists.1 (by kernel_rfl : (Try.prog.info? 4).isSome = true)
  rw [run_equalIn_array W (d + 1) X X (n := 17) (e := 4) Try.underlying70 hi]
  refine eqItems_true _ _ _ _ _ fun j hj => ?_
  obtain ⟨b, hb⟩ := h j (List.mem_range.1 hj)
  rw [hc, Nat.mul_one]
  exact ⟨_, part_one Try.underlying4 rfl hb, by rw [run_equalIn_bool' W d _ _ _ Try.underlying4]; simp⟩
theorem eq71 (d : Nat) (X : Array Value) (h : ∀ j, j < 17 → ∃ b, X[j]? = some (.int .i64 b)) : (Op.equalIn (d + 2) 71 (.agg X) (.agg X)).run Try.prog W = .ok true W := by
  have hc : (Try.prog.cellsOf 3) = 1 := by kernel_rfl
  obtain ⟨i, hi⟩ := Option.isSome_iff_exists.1 (by kernel_rfl : (Try.prog.info? 3).isSome = true)
  rw [run_equalIn_array W (d + 1) X X (n := 17) (e := 3) Try.underlying71 hi]
  refine eqItems_true _ _ _ _ _ fun j hj => ?_
  obtain ⟨b, hb⟩ := h j (List.mem_range.1 hj)
  rw [hc, Nat.mul_one]
  exact ⟨_, part_one Try.underlying3 rfl hb, by rw [run_equalIn_int W d _ _ _ _ _ Try.underlying3]; simp⟩
theorem eq72 (d : Nat) (X : Array Value) (h : ∀ j, j < 289 → ∃ b, X[j]? = some (.bool b)) : (Op.equalIn (d + 3) 72 (.agg X) (.agg X)).run Try.prog W = .ok true W := by
  have hc : (Try.prog.cellsOf 70) = 17 := by kernel_rfl
  obtain ⟨i, hi⟩ := Option.isSome_iff_exists.1 (by kernel_rfl : (Try.prog.info? 70).isSome = true)
  rw [run_equalIn_array W (d + 2) X X (n := 17) (e := 70) Try.underlying72 hi]
  refine eqItems_true _ _ _ _ _ fun j hj => ?_
  have hj := List.mem_range.1 hj
  refine ⟨_, part_row Try.underlying70 hi, eq70 d _ fun q hq => ?_⟩
  obtain ⟨b, hb⟩ := h (j * 17 + q) (by omega)
  refine ⟨b, ?_⟩
  rw [hc, Array.getElem?_extract, if_pos (by have := (Array.getElem?_eq_some_iff.1 hb).1; omega)]
  exact hb
theorem eq73 (d : Nat) (X : Array Value) (h : ∀ j, j < 289 → ∃ b, X[j]? = some (.int .i64 b)) : (Op.equalIn (d + 3) 73 (.agg X) (.agg X)).run Try.prog W = .ok true W := by
  have hc : (Try.prog.cellsOf 71) = 17 := by kernel_rfl
  obtain ⟨i, hi⟩ := Option.isSome_iff_exists.1 (by kernel_rfl : (Try.prog.info? 71).isSome = true)
  rw [run_equalIn_array W (d + 2) X X (n := 17) (e := 71) Try.underlying73 hi]
  refine eqItems_true _ _ _ _ _ fun j hj => ?_
  have hj := List.mem_range.1 hj
  refine ⟨_, part_row Try.underlying71 hi, eq71 d _ fun q hq => ?_⟩
  obtain ⟨b, hb⟩ := h (j * 17 + q) (by omega)
  refine ⟨b, ?_⟩
  rw [hc, Array.getElem?_extract, if_pos (by have := (Array.getElem?_eq_some_iff.1 hb).1; omega)]
  exact hb
end
/-- The cells of a sight from o on: the list of packets stands behind them. -/
def seg (c : ECfg) (p : PV) (o n : Nat) : List Value := (List.range n).map fun j => halfF c p (.slice none 0 0) 17 17 17 289 289 (o + j)
theorem seg_len (c : ECfg) (p : PV) (o n : Nat) : (seg c p o n).length = n := by simp [seg]
theorem seg_at {c : ECfg} {p : PV} {o n j : Nat} (h : j < n) : (seg c p o n)[j]? = some (halfF c p (.slice none 0 0) 17 17 17 289 289 (o + j)) := by simp [seg, h]
theorem half_v (c : ECfg) (p : PV) (v v' : Value) {u1 u2 u3 n1 n2 i : Nat} (h : i < 630) : halfF c p v u1 u2 u3 n1 n2 i = halfF c p v' u1 u2 u3 n1 n2 i := by
  unfold halfF
  repeat' split
  all_goals first | rfl | omega
theorem seg_range {w : World} {S : Nat} {c : ECfg} {p : PV} {v : Value} (h : Blk w S 75 (sight c p v)) {o n : Nat} (ho : o + n ≤ 630) : w.rangeAt S o (seg c p o n) := fun j u hj => by
  have hlt : j < n := by
    have := (List.getElem?_eq_some_iff.1 hj).1
    rwa [seg_len] at this
  rw [seg_at hlt] at hj
  rw [h.cell, sight, rg_at _ (by omega), half_v c p v (.slice none 0 0) (by omega)]
  exact hj
theorem seg_bool {c : ECfg} {p : PV} {o n : Nat} (h : 1 ≤ o ∧ o + n ≤ 18 ∨ 52 ≤ o ∧ o + n ≤ 341) : ∀ j, j < n → ∃ b, (seg c p o n).toArray[j]? = some (.bool b) := fun j hj => by
  rw [List.getElem?_toArray, seg_at hj]
  unfold halfF
  rw [if_neg (by omega)]
  rcases h with h | h
  · rw [if_pos (by omega)]; exact ⟨_, rfl⟩
  · rw [if_neg (by omega), if_neg (by omega), if_neg (by omega), if_pos (by omega)]; exact ⟨_, rfl⟩
theorem seg_int {c : ECfg} {p : PV} {o n : Nat} (h : 18 ≤ o ∧ o + n ≤ 52 ∨ 341 ≤ o ∧ o + n ≤ 630) : ∀ j, j < n → ∃ b, (seg c p o n).toArray[j]? = some (.int .i64 b) := fun j hj => by
  rw [List.getElem?_toArray, seg_at hj]
  unfold halfF
  rw [if_neg (by omega), if_neg (by omega)]
  rcases h with h | h
  · by_cases h1 : o + j < 35
    · rw [if_pos h1]; exact ⟨_, rfl⟩
    · rw [if_neg h1, if_pos (by omega)]; exact ⟨_, rfl⟩
  · rw [if_neg (by omega), if_neg (by omega), if_neg (by omega), if_pos (by omega)]; exact ⟨_, rfl⟩
theorem wpList_load_g {P : Program} {ops : Array Oper} {Q : Exit → Act → World → Prop} {a : Act} {w : World} {rest : List Oper} {o : Oper} {v : Value} (hw : Region.wanted o (yielded ops a.tmps) = true) (ty : TypeId) (x : Operand) (ho : o.op = .load ty x) (hr : Sem.run P (Instr.loadAt ty (a.eval x)) w = .ok v w) (h : wpList P ops Q rest (a.put o.dst v) w) : wpList P ops Q (o :: rest) a w :=
  BigFrame.wpList_want hw fun _ hK => wp_load_run ty x ho hr (hK _ _ h)
set_option maxRecDepth 100000 in
set_option maxHeartbeats 3200000 in
theorem is_any {w : World} {B1 B2 : Nat} {c : ECfg} {p : PV} {v1 v2 : Value} (h1 : FlNew w B1 v1 p.way) (h2 : FlNew w B2 v2 p.way) (hl : p.way.length ≤ 1099511627776) : Calls Try.prog 35 #[.agg (sight c p v1), .agg (sight c p v2)] w (TrueOk w) := by
  obtain ⟨A1, cap1, rfl, hf1⟩ := h1.at_
  obtain ⟨A2, cap2, rfl, hf2⟩ := h2.at_
  have hba := one_box' w (.cells (sight c p (.slice A1 p.way.length cap1)) 75)
  have hRa := Blk.new w 75 (sight c p (.slice A1 p.way.length cap1))
  obtain ⟨wa, hwa⟩ : ∃ wa, wa = w.alloc (.cells (sight c p (.slice A1 p.way.length cap1)) 75) := ⟨_, rfl⟩
  rw [← hwa] at hba hRa
  have hsa : wa.heap.size = w.heap.size + 1 := by rw [hwa]; simp
  have hbb := one_box' wa (.cells (sight c p (.slice A2 p.way.length cap2)) 75)
  have hRb := Blk.new wa 75 (sight c p (.slice A2 p.way.length cap2))
  obtain ⟨w0, hw0⟩ : ∃ w0, w0 = wa.alloc (.cells (sight c p (.slice A2 p.way.length cap2)) 75) := ⟨_, rfl⟩
  rw [← hw0] at hbb hRb
  rw [hsa] at hRb
  have hb0 := hba.trans (hbb.mono hba.size)
  have HWA := Lib.hid hwa
  have HW0 := Lib.hid hw0
  have HR1 := Lib.hid (hRa.over hbb)
  have HR2 := Lib.hid hRb
  have HB0 := Lib.hid hb0
  have HL := Lib.hid (lists_yes A1 A2 _ _ cap1 cap2 p.way (hf1.below hb0) (hf2.below hb0) hl)
  have k1 : w0.cell? ⟨w.heap.size, 0, none⟩ = some (.int .i64 (p.clock : Int)) := by rw [HR1.out.cell, sight, rg_at _ (by omega)]; rfl
  have k2 : w0.cell? ⟨w.heap.size + 1, 0, none⟩ = some (.int .i64 (p.clock : Int)) := by rw [HR2.out.cell, sight, rg_at _ (by omega)]; rfl
  have m1 : w0.cell? ⟨w.heap.size, 630, none⟩ = some (.slice A1 p.way.length cap1) := by rw [HR1.out.cell, sight, rg_at _ (by omega)]; rfl
  have m2 : w0.cell? ⟨w.heap.size + 1, 630, none⟩ = some (.slice A2 p.way.length cap2) := by rw [HR2.out.cell, sight, rg_at _ (by omega)]; rfl
  have ek : ((p.clock : Int) == (p.clock : Int)) = true := by simp
  have hU1 := run_loadAt_mid (P := Try.prog) w0 w.heap.size 1 70 (seg c p 1 17) _ (seg_range HR1.out (by omega)) Try.underlying70 rfl (by rw [seg_len]; kernel_rfl)
  have hU2 := run_loadAt_mid (P := Try.prog) w0 (w.heap.size + 1) 1 70 (seg c p 1 17) _ (seg_range HR2.out (by omega)) Try.underlying70 rfl (by rw [seg_len]; kernel_rfl)
  have eU : ∀ W, Sem.run Try.prog (Op.equalIn 10000 70 (.agg (seg c p 1 17).toArray) (.agg (seg c p 1 17).toArray)) W = .ok true W := fun W => eq70 9998 _ (seg_bool (by omega))
  have hI1 := run_loadAt_mid (P := Try.prog) w0 w.heap.size 18 71 (seg c p 18 17) _ (seg_range HR1.out (by omega)) Try.underlying71 rfl (by rw [seg_len]; kernel_rfl)
  have hI2 := run_loadAt_mid (P := Try.prog) w0 (w.heap.size + 1) 18 71 (seg c p 18 17) _ (seg_range HR2.out (by omega)) Try.underlying71 rfl (by rw [seg_len]; kernel_rfl)
  have eI : ∀ W, Sem.run Try.prog (Op.equalIn 10000 71 (.agg (seg c p 18 17).toArray) (.agg (seg c p 18 17).toArray)) W = .ok true W := fun W => eq71 9998 _ (seg_int (by omega))
  have hT1 := run_loadAt_mid (P := Try.prog) w0 w.heap.size 35 71 (seg c p 35 17) _ (seg_range HR1.out (by omega)) Try.underlying71 rfl (by rw [seg_len]; kernel_rfl)
  have hT2 := run_loadAt_mid (P := Try.prog) w0 (w.heap.size + 1) 35 71 (seg c p 35 17) _ (seg_range HR2.out (by omega)) Try.underlying71 rfl (by rw [seg_len]; kernel_rfl)
  have eT : ∀ W, Sem.run Try.prog (Op.equalIn 10000 71 (.agg (seg c p 35 17).toArray) (.agg (seg c p 35 17).toArray)) W = .ok true W := fun W => eq71 9998 _ (seg_int (by omega))
  have hO1 := run_loadAt_mid (P := Try.prog) w0 w.heap.size 52 72 (seg c p 52 289) _ (seg_range HR1.out (by omega)) Try.underlying72 rfl (by rw [seg_len]; kernel_rfl)
  have hO2 := run_loadAt_mid (P := Try.prog) w0 (w.heap.size + 1) 52 72 (seg c p 52 289) _ (seg_range HR2.out (by omega)) Try.underlying72 rfl (by rw [seg_len]; kernel_rfl)
  have eO : ∀ W, Sem.run Try.prog (Op.equalIn 10000 72 (.agg (seg c p 52 289).toArray) (.agg (seg c p 52 289).toArray)) W = .ok true W := fun W => eq72 9997 _ (seg_bool (by omega))
  have hY1 := run_loadAt_mid (P := Try.prog) w0 w.heap.size 341 73 (seg c p 341 289) _ (seg_range HR1.out (by omega)) Try.underlying73 rfl (by rw [seg_len]; kernel_rfl)
  have hY2 := run_loadAt_mid (P := Try.prog) w0 (w.heap.size + 1) 341 73 (seg c p 341 289) _ (seg_range HR2.out (by omega)) Try.underlying73 rfl (by rw [seg_len]; kernel_rfl)
  have eY : ∀ W, Sem.run Try.prog (Op.equalIn 10000 73 (.agg (seg c p 341 289).toArray) (.agg (seg c p 341 289).toArray)) W = .ok true W := fun W => eq73 9997 _ (seg_int (by omega))
  have hma : Try.prog.eqGuardType Try.prog.depth 70 = false := by kernel_rfl
  have hmb : Try.prog.eqGuardType Try.prog.depth 71 = false := by kernel_rfl
  have hmc : Try.prog.eqGuardType Try.prog.depth 72 = false := by kernel_rfl
  have hmd : Try.prog.eqGuardType Try.prog.depth 73 = false := by kernel_rfl
  clear hwa hw0 hba hbb hRa hRb hsa hb0 hf1 hf2 h1 h2
  go_enter Try.func35, Try.ntmps35
  go_upto_region 1 with fail
  rw [← HWA.out, ← HW0.out]
  go_wp2_with (first
    | (refine wpList_load_g (by rfl) 70 _ rfl hU1 ?_)
    | (refine wpList_load_g (by rfl) 70 _ rfl hU2 ?_)
    | (refine wpList_load_g (by rfl) 71 _ rfl hI1 ?_)
    | (refine wpList_load_g (by rfl) 71 _ rfl hI2 ?_)
    | (refine wpList_load_g (by rfl) 71 _ rfl hT1 ?_)
    | (refine wpList_load_g (by rfl) 71 _ rfl hT2 ?_)
    | (refine wpList_load_g (by rfl) 72 _ rfl hO1 ?_)
    | (refine wpList_load_g (by rfl) 72 _ rfl hO2 ?_)
    | (refine wpList_load_g (by rfl) 73 _ rfl hY1 ?_)
    | (refine wpList_load_g (by rfl) 73 _ rfl hY2 ?_)
    | (go_at_call 58; refine HL.out.mono ?_; rintro _ w1 ⟨rfl, hb1⟩; have HB1 := Lib.hid hb1; clear hb1))
  go_ret
  exact ⟨rfl, HB0.out.trans (HB1.out.mono HB0.out.size)⟩
end Go.Proofs.Ytgfhmfhhobhojaa
