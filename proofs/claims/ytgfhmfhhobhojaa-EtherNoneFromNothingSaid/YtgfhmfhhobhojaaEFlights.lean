/-
  The program's network: Flights.
-/
import Derived.Test.YtgfhmfhhobhojaaERound
namespace Go.Proofs.Ytgfhmfhhobhojaa
open Go.ChangeShapes Go.WideShapes Go.ChangeAt Go.RowKit
variable {w : World} {F : Nat → Prop} {c : ECfg} {D : Nat} {p : PV} {m : Nat}
theorem make_flights (n : Nat) (hn : n ≤ 1099511627776) (W : World) : ∃ cur : Array Value, cur.size = n * 5 ∧ Sem.run Try.prog (Instr.makeSlice 43 (.int .i64 (n : Int)) (.int .i64 (n : Int))) W = .ok (.slice (some ⟨W.heap.size, 0, none⟩) n n) (W.alloc (.cells cur 48)) := by
  obtain ⟨i0, hi0, hz0, hz1, hz2⟩ := info_parts info_flight
  have hmk := run_make_rowN (P := Try.prog) 43 48 i0 _ u_flights hi0 hz0 .i64 .i64 n n (by omega) (by rw [hz2]; omega) (by omega) W
  exact ⟨_, by rw [hz1]; simp [madeCells, Value.cells], hmk⟩
theorem rowsP_put {X : List (Flt × Nat)} {k : Nat} {f : Flt} {y : Nat} (hx : X[k]? = some (f, y)) (z : Nat) : (rowsP X).set (k * 5 + 4) (.slice (some ⟨z, 0, none⟩) f.bs.length f.bs.length) = rowsP (X.set k (f, z)) := by
  obtain ⟨h1, h2, _⟩ := split_at hx
  have hlt : k < X.length := (List.getElem?_eq_some_iff.1 hx).1
  have e2 : X.set k (f, z) = X.take k ++ (f, z) :: X.drop (k + 1) := by
    rw [List.set_eq_take_append_cons_drop, if_pos hlt]
  have e1 : rowsP X = rowsP (X.take k) ++ (f.row y ++ rowsP (X.drop (k + 1))) := by
    have h3 : rowsP X = rowsP (X.take k ++ (f, y) :: X.drop (k + 1)) := by rw [← h1]
    rw [h3, rowsP_append]
    simp [rowsP]
  have e3 : rowsP (X.set k (f, z)) = rowsP (X.take k) ++ (f.row z ++ rowsP (X.drop (k + 1))) := by
    rw [e2, rowsP_append]
    simp [rowsP]
  rw [e1, e3, List.set_append_right _ _ (by rw [rowsP_length, h2]; omega), rowsP_length, h2, show k * 5 + 4 - k * 5 = 4 by omega]
  rfl
def FlightsR (w : World) (l : List Flt) (e : Ending) (w' : World) : Prop :=
  ∃ v, e = .returned v ∧ Below w.heap.size w w' ∧ ∃ H : List (Flt × Nat), H.map (·.1) = l ∧ w'.ownsRow w.heap.size 48 5 v H.length (rowsP H) ∧ (∀ x ∈ H, Blk w' x.2 5 (bvs x.1.bs).toArray) ∧ ∀ x ∈ H, w.heap.size ≤ x.2
/-- The list half made: its first k packets have blocks of their own. -/
structure HalfF (w w' : World) (F : Nat → Prop) (g n : Nat) (X Z : List (Flt × Nat)) (k : Nat) : Prop where
  below : Below w.heap.size w w'
  row : w'.ownsRow w.heap.size 48 5 (.slice (some ⟨g, 0, none⟩) n n) n (rowsP Z)
  map : Z.map (·.1) = X.map (·.1)
  rest : ∀ i, k ≤ i → Z[i]? = X[i]?
  done_ : ∀ i x, i < k → Z[i]? = some x → w.heap.size ≤ x.2 ∧ Blk w' x.2 5 (bvs x.1.bs).toArray
set_option maxRecDepth 100000 in
set_option maxHeartbeats 6400000 in
theorem Flights_any (h : PNx w F c D p m) (hf : Fine p m) : Calls Try.prog 23 #[.pointer (some ⟨D, 0, none⟩)] w (FlightsR w p.way) := by
  obtain ⟨i0, hi0, hz0, hz1, hz2⟩ := info_parts info_flight
  obtain ⟨hF, P, S, L, v, X, hP⟩ := h
  obtain ⟨A6, cap6, rfl, hcp6, hcm6⟩ := own_shape hP.row
  have c6 : w.cell? ⟨D, 6, none⟩ = some (.slice A6 X.length cap6) := hP.blk.cell 6
  have hXl : X.length ≤ 1099511627776 := by rw [← hP.len]; exact hf.way
  obtain ⟨cur, hcur, hmk⟩ := make_flights X.length hXl w
  have hb0 := one_box' w (.cells cur 48)
  have hB0 := Blk.new w 48 cur
  obtain ⟨w0, hw0⟩ : ∃ w0, w0 = w.alloc (.cells cur 48) := ⟨_, rfl⟩
  rw [← hw0] at hb0 hB0 hmk
  have hP0 := hP.below hF hb0
  have g6 : w0.cell? ⟨D, 6, none⟩ = some (.slice A6 X.length cap6) := hP0.blk.cell 6
  have HR0 : Hid (Rd w0 w0.heap.size 5 A6 X.length (rowsP X)) := Lib.hid (Rd.of_own hP0.row)
  have HP := Lib.hid hP
  have HF := Lib.hid hF
  have HB0 := Lib.hid hb0
  have HBk := Lib.hid hB0
  have HCU := Lib.hid hcur
  have HFL := Lib.hid fun x (hx : x ∈ X) => (hf.fl x.1 (by rw [← hP.way]; exact List.mem_map_of_mem hx)).2
  have HWY := Lib.hid hP.way
  clear hw0 hb0 hB0 hP0 hP hF hf hcur
  go_enter Try.func23, Try.ntmps23
  go_upto_region 3 with (refine copyRZ (by rfl) _ _ _ _ (by rfl) 48 u_flights i0 hi0 5 hz1 _ 0 X.length X.length A6 X.length cap6 (by rfl) (by rfl) cur 48 HBk.out _ _ HR0.out (Nat.le_refl _) (by rw [rowsP_length, HCU.out]; omega) (rowsP_one X) ?_; intro w1 hB1 hc1)
  have HST : Hid (HalfF w w1 F w.heap.size X.length X X 0) := by
    refine Lib.hid ⟨HB0.out.trans (hc1.to_below HB0.out.size fun k e => by omega), ?_, rfl, fun _ _ => rfl, fun i x h => by omega⟩
    have e : (splice cur.toList 0 (rowsP X)).toArray = (rowsP X).toArray := by
      congr 1
      unfold splice
      rw [List.take_zero, List.nil_append, List.drop_eq_nil_of_le (by rw [Array.length_toList, HCU.out, rowsP_length]; omega), List.append_nil]
    rw [e] at hB1
    exact ⟨rowsP_length X, .inr ⟨w.heap.size, X.length, _, rfl, Nat.le_refl _, hB1, Nat.le_refl _, by simp only [maxLen]; omega, by rw [List.size_toArray, rowsP_length], by rw [List.take_of_length_le (by rw [rowsP_length]; omega)]⟩⟩
  clear hB1 hc1 c6 g6 hmk
  go_wp2_with fail
  go_loopw [4, 19] (fun _ i wr => ∃ (k : Nat) (Z : List (Flt × Nat)), k ≤ X.length ∧ i = .int .i64 (k : Int) ∧ Hid (HalfF w wr F w.heap.size X.length X Z k)) (fun _ i _ => X.length - (intOf i).toNat)
  case atStart => exact ⟨0, X, by omega, rfl, HST⟩
  case round =>
    clear HST
    obtain ⟨k, Z, hk, rfl, HT⟩ := hrel
    have hZl : Z.length = X.length := by have h := congrArg List.length HT.out.map; simpa using h
    by_cases hlt : k < X.length
    · have hI : (k : Int) < (X.length : Int) := by omega
      obtain ⟨⟨f, y⟩, hx⟩ : ∃ x, X[k]? = some x := ⟨X[k], List.getElem?_eq_getElem hlt⟩
      have hzk : Z[k]? = some (f, y) := by rw [HT.out.rest k (Nat.le_refl _)]; exact hx
      have hxm : (f, y) ∈ X := List.mem_of_getElem? hx
      have hy := (HP.out.below HF.out HT.out.below).bytes _ hxm
      obtain ⟨_, cap', cur', hv, hgb, hBr, hle, hcm, hsz, htk⟩ := own_parts HT.out.row (by omega)
      have m4 : wr.cell? ⟨w.heap.size, k * 5 + 4, none⟩ = some (.slice (some ⟨y, 0, none⟩) f.bs.length f.bs.length) := by
        have hall := flat_at (z := 5) (es := Z.map fun x => x.1.row x.2) (fun x hx => by
          simp only [List.mem_map] at hx
          obtain ⟨y, _, rfl⟩ := hx
          rfl) k 4 (by omega)
        have hr := HT.out.row.cells (g := w.heap.size) rfl (k * 5 + 4) (.slice (some ⟨y, 0, none⟩) f.bs.length f.bs.length) (hall.trans (by rw [List.getElem?_map, hzk]; rfl))
        rw [addr_add, Nat.zero_add] at hr
        exact hr
      have HFR := Lib.hid (fresh_any (w := wr) (some ⟨y, 0, none⟩) f.bs.length f.bs.length f.bs ⟨by rw [bvs_length, Nat.mul_one], fun _ => ⟨y, 0, rfl, hy.lt, fun q u hu => by rw [Nat.zero_add, hy.cell, List.getElem?_toArray]; exact hu⟩⟩ (Nat.le_trans (HFL.out _ hxm) (by omega)))
      have HZK := Lib.hid hzk
      have HZL := Lib.hid hZl
      have HXE := Lib.hid hx
      clear hx hzk hxm hy hv hgb hBr hle hcm hsz htk hZl
      go_wp2_with (go_at_call 48; refine HFR.out.mono ?_; rintro _ w2 ⟨g2, rfl, hg2, hB2, hb2⟩; obtain ⟨_, cap'', cur'', hv'', _, hBr'', _, _, hsz'', _⟩ := own_parts (own_over HT.out.row hb2) (by omega); have m4' : w2.cell? ⟨w.heap.size, k * 5 + 4, none⟩ = some (.slice (some ⟨y, 0, none⟩) f.bs.length f.bs.length) := (hb2.cell (p := ⟨w.heap.size, k * 5 + 4, none⟩) (by have := (own_block_lt HT.out.row (g := w.heap.size) rfl).1; exact this)).trans m4; simp only [Value.slice.injEq, Option.some.injEq, Addr.mk.injEq] at hv''; obtain ⟨⟨rfl, _⟩, _, rfl⟩ := hv''; have mf : w2.frozen? ⟨w.heap.size, k * 5 + 4, none⟩ = false := hBr''.frozen _)
      obtain ⟨w3, hw3⟩ : ∃ w3, w3 = w2.setCell ⟨w.heap.size, k * 5 + 4, none⟩ (.slice (some ⟨g2, 0, none⟩) f.bs.length f.bs.length) := ⟨_, rfl⟩
      have HN : Hid (HalfF w w3 F w.heap.size X.length X (Z.set k (f, g2)) (k + 1)) := by
        have hsr := HT.out.below.size
        have hzk := HZK.out
        have hne : ∀ x : Flt × Nat, Blk w2 x.2 5 (bvs x.1.bs).toArray → x.2 ≠ w.heap.size := fun x hb => hb.ne_ hBr'' (by decide)
        refine Lib.hid ⟨?_, ?_, ?_, fun i hi => ?_, fun i x hi hxi => ?_⟩
        · rw [hw3]
          exact (HT.out.below.trans (hb2.mono hsr)).setCell (p := ⟨w.heap.size, k * 5 + 4, none⟩) (Nat.le_refl _) _
        · rw [hw3]
          have h1 := own_setZ (u := .slice (some ⟨g2, 0, none⟩) f.bs.length f.bs.length) (own_over HT.out.row hb2) (show k * 5 + 4 < X.length * 5 by omega)
          rw [rowsP_put hzk g2] at h1
          exact h1
        · rw [List.map_set, HT.out.map]
          have h1 : (X.map (·.1))[k]? = some f := by rw [List.getElem?_map, HXE.out]; rfl
          obtain ⟨_, h3⟩ := List.getElem?_eq_some_iff.1 h1
          rw [← h3, List.set_getElem_self]
        · rw [List.getElem?_set_ne (by omega)]
          exact HT.out.rest i (by omega)
        · by_cases hik : i = k
          · subst hik
            rw [List.getElem?_set_self (by rw [HZL.out]; exact hlt)] at hxi
            injection hxi with hxi
            subst hxi
            refine ⟨by show w.heap.size ≤ g2; omega, ?_⟩
            rw [hw3]
            exact hB2.far (hB2.ne_ hBr'' (by decide)) _
          · rw [List.getElem?_set_ne (by omega)] at hxi
            obtain ⟨h1, h2⟩ := HT.out.done_ i x (by omega) hxi
            refine ⟨h1, ?_⟩
            rw [hw3]
            exact (h2.over hb2).far (hne x (h2.over hb2)) _
      have HW3 := Lib.hid hw3
      clear hw3 hB2 hb2 hBr'' hsz'' m4 m4' mf
      rw [← HW3.out]
      go_roundw
      case rel => exact ⟨k + 1, Z.set k (f, g2), by omega, by go_num, HN⟩
      case measure => simp [intOf] <;> omega
    · obtain rfl : k = X.length := by omega
      have HE : Hid (FlightsR w p.way (.returned (.slice (some ⟨w.heap.size, 0, none⟩) X.length X.length)) wr) := by
        refine Lib.hid ⟨_, rfl, HT.out.below, Z, by rw [HT.out.map, HWY.out], by rw [hZl]; exact HT.out.row, fun x hx => ?_, fun x hx => ?_⟩
        · obtain ⟨i, hi, he⟩ := List.getElem_of_mem hx
          exact (HT.out.done_ i x (by omega) (by rw [List.getElem?_eq_getElem hi, he])).2
        · obtain ⟨i, hi, he⟩ := List.getElem_of_mem hx
          exact (HT.out.done_ i x (by omega) (by rw [List.getElem?_eq_getElem hi, he])).1
      clear hZl
      go_wp2
      go_ret
      exact HE.out
end Go.Proofs.Ytgfhmfhhobhojaa
