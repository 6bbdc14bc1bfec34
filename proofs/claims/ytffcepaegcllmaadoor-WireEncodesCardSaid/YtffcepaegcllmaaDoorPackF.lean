/-
  A packet, opened.
-/
import Derived.Test.YtffcepaegcllmaaDoorPackT
import Derived.Test.YtffcepaegcllmaaDoorStruct
namespace Go.Proofs.YtffcepaegcllmaaDoor
open Go.ChangeShapes Go.WideShapes Go.ChangeAt Go.RowKit
theorem cons_of_len {n : Nat} {l : List Value} (h : l.length = n + 1) : ∃ a r, l = a :: r ∧ r.length = n := by
  cases l with
  | nil => simp at h
  | cons a r => exact ⟨a, r, rfl, by simpa using h⟩
theorem Fit.Slot {H : Type} {enc : TypeId × Value → H} {W : World} {cs : List Value} {d : DataW H} (h : Fit enc Tryd.prog W 115 cs d) :
    ∃ (x0 : Int) (x1 : Int), cs = [.int .i64 x0, .int .i64 x1] ∧ -9223372036854775808 ≤ x0 ∧ x0 ≤ 9223372036854775807 ∧ -9223372036854775808 ≤ x1 ∧ x1 ≤ 9223372036854775807 := by
  have hl := Fit.structLen Tryd.underlying115 h (by kernel_rfl : Tryd.prog.cellsOf 115 = 2)
  match cs, hl, h with
  | [c0, c1], _, h =>
  obtain ⟨df_0, f_0⟩ : ∃ di, Fit enc Tryd.prog W 3 [c0] di := Fit.fld (T := 3) (o := 0) (z := 1) Tryd.underlying115 h 0 rfl rfl rfl (by kernel_rfl)
  obtain ⟨x0, e0, b0, t0⟩ := f_0.i64 Tryd.underlying3
  obtain rfl : c0 = .int .i64 x0 := (List.cons.inj e0).1
  obtain ⟨df_1, f_1⟩ : ∃ di, Fit enc Tryd.prog W 3 [c1] di := Fit.fld (T := 3) (o := 1) (z := 1) Tryd.underlying115 h 1 rfl rfl rfl (by kernel_rfl)
  obtain ⟨x1, e1, b1, t1⟩ := f_1.i64 Tryd.underlying3
  obtain rfl : c1 = .int .i64 x1 := (List.cons.inj e1).1
  exact ⟨x0, x1, rfl, b0, t0, b1, t1⟩
theorem Fit.Data {H : Type} {enc : TypeId × Value → H} {W : World} {cs : List Value} {d : DataW H} (h : Fit enc Tryd.prog W 82 cs d) :
    ∃ (x0 : Int) (x1 : Int) (x2 : Int) (A3 : Option Addr) (n3 k3 : Nat) (x3 : List UInt8), cs = [.int .i64 x0, .int .i64 x1, .int .i64 x2, .slice A3 n3 k3] ∧ -9223372036854775808 ≤ x0 ∧ x0 ≤ 9223372036854775807 ∧ -9223372036854775808 ≤ x1 ∧ x1 ≤ 9223372036854775807 ∧ -9223372036854775808 ≤ x2 ∧ x2 ≤ 9223372036854775807 ∧ n3 ≤ k3 ∧ k3 ≤ 140737488351232 ∧ RdB W W.heap.size A3 n3 x3 := by
  have hl := Fit.structLen Tryd.underlying82 h (by kernel_rfl : Tryd.prog.cellsOf 82 = 4)
  match cs, hl, h with
  | [c0, c1, c2, c3], _, h =>
  obtain ⟨df_0, f_0⟩ : ∃ di, Fit enc Tryd.prog W 3 [c0] di := Fit.fld (T := 3) (o := 0) (z := 1) Tryd.underlying82 h 0 rfl rfl rfl (by kernel_rfl)
  obtain ⟨x0, e0, b0, t0⟩ := f_0.i64 Tryd.underlying3
  obtain rfl : c0 = .int .i64 x0 := (List.cons.inj e0).1
  obtain ⟨df_1, f_1⟩ : ∃ di, Fit enc Tryd.prog W 3 [c1] di := Fit.fld (T := 3) (o := 1) (z := 1) Tryd.underlying82 h 1 rfl rfl rfl (by kernel_rfl)
  obtain ⟨x1, e1, b1, t1⟩ := f_1.i64 Tryd.underlying3
  obtain rfl : c1 = .int .i64 x1 := (List.cons.inj e1).1
  obtain ⟨df_2, f_2⟩ : ∃ di, Fit enc Tryd.prog W 3 [c2] di := Fit.fld (T := 3) (o := 2) (z := 1) Tryd.underlying82 h 2 rfl rfl rfl (by kernel_rfl)
  obtain ⟨x2, e2, b2, t2⟩ := f_2.i64 Tryd.underlying3
  obtain rfl : c2 = .int .i64 x2 := (List.cons.inj e2).1
  obtain ⟨df_3, f_3⟩ : ∃ di, Fit enc Tryd.prog W 36 [c3] di := Fit.fld (T := 36) (o := 3) (z := 1) Tryd.underlying82 h 3 rfl rfl rfl (by kernel_rfl)
  obtain ⟨A3, n3, k3, x3, e3, p3, q3, r3⟩ := f_3.bytes Tryd.underlying36 Tryd.underlying5 (by kernel_rfl) (by kernel_rfl)
  obtain rfl : c3 = .slice A3 n3 k3 := (List.cons.inj e3).1
  exact ⟨x0, x1, x2, A3, n3, k3, x3, rfl, b0, t0, b1, t1, b2, t2, p3, q3, r3⟩
theorem rows_slots {H : Type} {enc : TypeId × Value → H} {W : World} {x : List (List Value)} (h : ∀ y ∈ x, y.length = 2 ∧ ∃ d, Fit enc Tryd.prog W 115 y d) : ∃ l : List (Int × Int), x.flatten = rowsS l ∧ l.length = x.length := by
  induction x with
  | nil => exact ⟨[], rfl, rfl⟩
  | cons y r ih =>
    obtain ⟨l, e1, e2⟩ := ih (fun z hz => h z (List.mem_cons_of_mem _ hz))
    obtain ⟨_, d, hd⟩ := h y List.mem_cons_self
    obtain ⟨x0, x1, rfl, _⟩ := Fit.Slot hd
    refine ⟨(x0, x1) :: l, ?_, by simp [e2]⟩
    rw [List.flatten_cons, e1]
    simp [rowsS]
theorem rows_datas {H : Type} {enc : TypeId × Value → H} {W : World} {x : List (List Value)} (h : ∀ y ∈ x, y.length = 4 ∧ ∃ d, Fit enc Tryd.prog W 82 y d) : ∃ l : List Msg, x.flatten = rowsM l ∧ l.length = x.length ∧ ∀ m ∈ l, MsgIn W W.heap.size m := by
  induction x with
  | nil => exact ⟨[], rfl, rfl, fun m h => by cases h⟩
  | cons y r ih =>
    obtain ⟨l, e1, e2, e3⟩ := ih (fun z hz => h z (List.mem_cons_of_mem _ hz))
    obtain ⟨_, d, hd⟩ := h y List.mem_cons_self
    obtain ⟨x0, x1, x2, A3, n3, k3, x3, rfl, _, _, _, _, _, _, p3, q3, r3⟩ := Fit.Data hd
    refine ⟨⟨x0, x1, x2, A3, n3, k3, x3⟩ :: l, ?_, by simp [e2], fun m hm => ?_⟩
    · rw [List.flatten_cons, e1]
      simp [rowsM, Msg.cells]
    · rcases List.mem_cons.1 hm with rfl | hm
      · exact ⟨r3, p3, by show k3 ≤ _; omega, by show n3 ≤ _; omega⟩
      · exact e3 m hm
theorem MsgsAt.of_rd {w : World} {B n : Nat} {A : Option Addr} {ml : List Msg} (hr : Rd w B 4 A n (rowsM ml)) (hl : ml.length = n) (hm : ∀ m ∈ ml, MsgIn w B m) : MsgsAt w B A n ml := by
  refine ⟨hl, hm, fun hn => ?_⟩
  obtain ⟨b, off, e, hlt, hc⟩ := hr.2 hn
  refine ⟨b, off, e, hlt, fun k m hk => ?_⟩
  have c : ∀ i, i < 4 → w.cell? ⟨b, off + (k * 4 + i), none⟩ = m.cells[i]? := fun i hi => by
    have hx := rowsM_at hk hi
    obtain ⟨u, hu⟩ : ∃ u, m.cells[i]? = some u := ⟨_, List.getElem?_eq_getElem (by simp [Msg.cells]; omega)⟩
    rw [hu] at hx ⊢
    exact hc _ _ hx
  exact ⟨by have := c 0 (by omega); simpa [Msg.cells] using this, by have := c 1 (by omega); rw [Nat.add_assoc]; exact this, by have := c 2 (by omega); rw [Nat.add_assoc]; exact this, by have := c 3 (by omega); rw [Nat.add_assoc]; exact this⟩
set_option maxRecDepth 100000 in
set_option maxHeartbeats 1600000 in
theorem Fit.Packet {H : Type} {enc : TypeId × Value → H} {W : World} {cs : List Value} {d : DataW H} (h : Fit enc Tryd.prog W 45 cs d) :
    ∃ (p : Pk) (D : PkD), cs = p.cells.toList ∧ PkIn W W.heap.size p D ∧ PkSz p := by
  have hl := Fit.structLen Tryd.underlying45 h (by kernel_rfl : Tryd.prog.cellsOf 45 = 45)
  obtain ⟨c0, r0, rfl, hl0⟩ := cons_of_len hl
  obtain ⟨c1, r1, rfl, hl1⟩ := cons_of_len hl0
  obtain ⟨c2, r2, rfl, hl2⟩ := cons_of_len hl1
  obtain ⟨c3, r3, rfl, hl3⟩ := cons_of_len hl2
  obtain ⟨c4, r4, rfl, hl4⟩ := cons_of_len hl3
  obtain ⟨c5, r5, rfl, hl5⟩ := cons_of_len hl4
  obtain ⟨c6, r6, rfl, hl6⟩ := cons_of_len hl5
  obtain ⟨c7, r7, rfl, hl7⟩ := cons_of_len hl6
  obtain ⟨c8, r8, rfl, hl8⟩ := cons_of_len hl7
  obtain ⟨c9, r9, rfl, hl9⟩ := cons_of_len hl8
  obtain ⟨c10, r10, rfl, hl10⟩ := cons_of_len hl9
  obtain ⟨c11, r11, rfl, hl11⟩ := cons_of_len hl10
  obtain ⟨c12, r12, rfl, hl12⟩ := cons_of_len hl11
  obtain ⟨c13, r13, rfl, hl13⟩ := cons_of_len hl12
  obtain ⟨c14, r14, rfl, hl14⟩ := cons_of_len hl13
  obtain ⟨c15, r15, rfl, hl15⟩ := cons_of_len hl14
  obtain ⟨c16, r16, rfl, hl16⟩ := cons_of_len hl15
  obtain ⟨c17, r17, rfl, hl17⟩ := cons_of_len hl16
  obtain ⟨c18, r18, rfl, hl18⟩ := cons_of_len hl17
  obtain ⟨c19, r19, rfl, hl19⟩ := cons_of_len hl18
  obtain ⟨c20, r20, rfl, hl20⟩ := cons_of_len hl19
  obtain ⟨c21, r21, rfl, hl21⟩ := cons_of_len hl20
  obtain ⟨c22, r22, rfl, hl22⟩ := cons_of_len hl21
  obtain ⟨c23, r23, rfl, hl23⟩ := cons_of_len hl22
  obtain ⟨c24, r24, rfl, hl24⟩ := cons_of_len hl23
  obtain ⟨c25, r25, rfl, hl25⟩ := cons_of_len hl24
  obtain ⟨c26, r26, rfl, hl26⟩ := cons_of_len hl25
  obtain ⟨c27, r27, rfl, hl27⟩ := cons_of_len hl26
  obtain ⟨c28, r28, rfl, hl28⟩ := cons_of_len hl27
  obtain ⟨c29, r29, rfl, hl29⟩ := cons_of_len hl28
  obtain ⟨c30, r30, rfl, hl30⟩ := cons_of_len hl29
  obtain ⟨c31, r31, rfl, hl31⟩ := cons_of_len hl30
  obtain ⟨c32, r32, rfl, hl32⟩ := cons_of_len hl31
  obtain ⟨c33, r33, rfl, hl33⟩ := cons_of_len hl32
  obtain ⟨c34, r34, rfl, hl34⟩ := cons_of_len hl33
  obtain ⟨c35, r35, rfl, hl35⟩ := cons_of_len hl34
  obtain ⟨c36, r36, rfl, hl36⟩ := cons_of_len hl35
  obtain ⟨c37, r37, rfl, hl37⟩ := cons_of_len hl36
  obtain ⟨c38, r38, rfl, hl38⟩ := cons_of_len hl37
  obtain ⟨c39, r39, rfl, hl39⟩ := cons_of_len hl38
  obtain ⟨c40, r40, rfl, hl40⟩ := cons_of_len hl39
  obtain ⟨c41, r41, rfl, hl41⟩ := cons_of_len hl40
  obtain ⟨c42, r42, rfl, hl42⟩ := cons_of_len hl41
  obtain ⟨c43, r43, rfl, hl43⟩ := cons_of_len hl42
  obtain ⟨c44, r44, rfl, hl44⟩ := cons_of_len hl43
  obtain rfl := List.eq_nil_of_length_eq_zero hl44
  obtain ⟨df_0, f_0⟩ : ∃ di, Fit enc Tryd.prog W 23 [c0, c1, c2, c3, c4] di := Fit.fld (T := 23) (o := 0) (z := 5) Tryd.underlying45 h 0 rfl rfl rfl (by kernel_rfl)
  obtain ⟨df_0_0, f_0_0⟩ : ∃ di, Fit enc Tryd.prog W 3 [c0] di := Fit.fld (T := 3) (o := 0) (z := 1) Tryd.underlying23 f_0 0 rfl rfl rfl (by kernel_rfl)
  obtain ⟨x0, e0, b0, t0⟩ := f_0_0.i64 Tryd.underlying3
  obtain rfl : c0 = .int .i64 x0 := (List.cons.inj e0).1
  obtain ⟨df_0_1, f_0_1⟩ : ∃ di, Fit enc Tryd.prog W 3 [c1] di := Fit.fld (T := 3) (o := 1) (z := 1) Tryd.underlying23 f_0 1 rfl rfl rfl (by kernel_rfl)
  obtain ⟨x1, e1, b1, t1⟩ := f_0_1.i64 Tryd.underlying3
  obtain rfl : c1 = .int .i64 x1 := (List.cons.inj e1).1
  obtain ⟨df_0_2, f_0_2⟩ : ∃ di, Fit enc Tryd.prog W 3 [c2] di := Fit.fld (T := 3) (o := 2) (z := 1) Tryd.underlying23 f_0 2 rfl rfl rfl (by kernel_rfl)
  obtain ⟨x2, e2, b2, t2⟩ := f_0_2.i64 Tryd.underlying3
  obtain rfl : c2 = .int .i64 x2 := (List.cons.inj e2).1
  obtain ⟨df_0_3, f_0_3⟩ : ∃ di, Fit enc Tryd.prog W 3 [c3] di := Fit.fld (T := 3) (o := 3) (z := 1) Tryd.underlying23 f_0 3 rfl rfl rfl (by kernel_rfl)
  obtain ⟨x3, e3, b3, t3⟩ := f_0_3.i64 Tryd.underlying3
  obtain rfl : c3 = .int .i64 x3 := (List.cons.inj e3).1
  obtain ⟨df_0_4, f_0_4⟩ : ∃ di, Fit enc Tryd.prog W 3 [c4] di := Fit.fld (T := 3) (o := 4) (z := 1) Tryd.underlying23 f_0 4 rfl rfl rfl (by kernel_rfl)
  obtain ⟨x4, e4, b4, t4⟩ := f_0_4.i64 Tryd.underlying3
  obtain rfl : c4 = .int .i64 x4 := (List.cons.inj e4).1
  obtain ⟨df_1, f_1⟩ : ∃ di, Fit enc Tryd.prog W 26 [c5, c6] di := Fit.fld (T := 26) (o := 5) (z := 2) Tryd.underlying45 h 1 rfl rfl rfl (by kernel_rfl)
  obtain ⟨df_1_0, f_1_0⟩ : ∃ di, Fit enc Tryd.prog W 3 [c5] di := Fit.fld (T := 3) (o := 0) (z := 1) Tryd.underlying26 f_1 0 rfl rfl rfl (by kernel_rfl)
  obtain ⟨x5, e5, b5, t5⟩ := f_1_0.i64 Tryd.underlying3
  obtain rfl : c5 = .int .i64 x5 := (List.cons.inj e5).1
  obtain ⟨df_1_1, f_1_1⟩ : ∃ di, Fit enc Tryd.prog W 24 [c6] di := Fit.fld (T := 24) (o := 1) (z := 1) Tryd.underlying26 f_1 1 rfl rfl rfl (by kernel_rfl)
  obtain ⟨A6, n6, k6, x6, e6, p6, q6, r6, s6⟩ := f_1_1.ints Tryd.underlying24 Tryd.underlying3 (by kernel_rfl) (by kernel_rfl)
  obtain rfl : c6 = .slice A6 n6 k6 := (List.cons.inj e6).1
  obtain ⟨df_2, f_2⟩ : ∃ di, Fit enc Tryd.prog W 30 [c7, c8, c9, c10, c11, c12, c13, c14, c15] di := Fit.fld (T := 30) (o := 7) (z := 9) Tryd.underlying45 h 2 rfl rfl rfl (by kernel_rfl)
  obtain ⟨df_2_0, f_2_0⟩ : ∃ di, Fit enc Tryd.prog W 24 [c7] di := Fit.fld (T := 24) (o := 0) (z := 1) Tryd.underlying30 f_2 0 rfl rfl rfl (by kernel_rfl)
  obtain ⟨A7, n7, k7, x7, e7, p7, q7, r7, s7⟩ := f_2_0.ints Tryd.underlying24 Tryd.underlying3 (by kernel_rfl) (by kernel_rfl)
  obtain rfl : c7 = .slice A7 n7 k7 := (List.cons.inj e7).1
  obtain ⟨df_2_1, f_2_1⟩ : ∃ di, Fit enc Tryd.prog W 3 [c8] di := Fit.fld (T := 3) (o := 1) (z := 1) Tryd.underlying30 f_2 1 rfl rfl rfl (by kernel_rfl)
  obtain ⟨x8, e8, b8, t8⟩ := f_2_1.i64 Tryd.underlying3
  obtain rfl : c8 = .int .i64 x8 := (List.cons.inj e8).1
  obtain ⟨df_2_2, f_2_2⟩ : ∃ di, Fit enc Tryd.prog W 3 [c9] di := Fit.fld (T := 3) (o := 2) (z := 1) Tryd.underlying30 f_2 2 rfl rfl rfl (by kernel_rfl)
  obtain ⟨x9, e9, b9, t9⟩ := f_2_2.i64 Tryd.underlying3
  obtain rfl : c9 = .int .i64 x9 := (List.cons.inj e9).1
  obtain ⟨df_2_3, f_2_3⟩ : ∃ di, Fit enc Tryd.prog W 3 [c10] di := Fit.fld (T := 3) (o := 3) (z := 1) Tryd.underlying30 f_2 3 rfl rfl rfl (by kernel_rfl)
  obtain ⟨x10, e10, b10, t10⟩ := f_2_3.i64 Tryd.underlying3
  obtain rfl : c10 = .int .i64 x10 := (List.cons.inj e10).1
  obtain ⟨df_2_4, f_2_4⟩ : ∃ di, Fit enc Tryd.prog W 28 [c11, c12, c13, c14] di := Fit.fld (T := 28) (o := 4) (z := 4) Tryd.underlying30 f_2 4 rfl rfl rfl (by kernel_rfl)
  obtain ⟨df_2_4_0, f_2_4_0⟩ : ∃ di, Fit enc Tryd.prog W 3 [c11] di := Fit.fld (T := 3) (o := 0) (z := 1) Tryd.underlying28 f_2_4 0 rfl rfl rfl (by kernel_rfl)
  obtain ⟨x11, e11, b11, t11⟩ := f_2_4_0.i64 Tryd.underlying3
  obtain rfl : c11 = .int .i64 x11 := (List.cons.inj e11).1
  obtain ⟨df_2_4_1, f_2_4_1⟩ : ∃ di, Fit enc Tryd.prog W 3 [c12] di := Fit.fld (T := 3) (o := 1) (z := 1) Tryd.underlying28 f_2_4 1 rfl rfl rfl (by kernel_rfl)
  obtain ⟨x12, e12, b12, t12⟩ := f_2_4_1.i64 Tryd.underlying3
  obtain rfl : c12 = .int .i64 x12 := (List.cons.inj e12).1
  obtain ⟨df_2_4_2, f_2_4_2⟩ : ∃ di, Fit enc Tryd.prog W 3 [c13] di := Fit.fld (T := 3) (o := 2) (z := 1) Tryd.underlying28 f_2_4 2 rfl rfl rfl (by kernel_rfl)
  obtain ⟨x13, e13, b13, t13⟩ := f_2_4_2.i64 Tryd.underlying3
  obtain rfl : c13 = .int .i64 x13 := (List.cons.inj e13).1
  obtain ⟨df_2_4_3, f_2_4_3⟩ : ∃ di, Fit enc Tryd.prog W 3 [c14] di := Fit.fld (T := 3) (o := 3) (z := 1) Tryd.underlying28 f_2_4 3 rfl rfl rfl (by kernel_rfl)
  obtain ⟨x14, e14, b14, t14⟩ := f_2_4_3.i64 Tryd.underlying3
  obtain rfl : c14 = .int .i64 x14 := (List.cons.inj e14).1
  obtain ⟨df_2_5, f_2_5⟩ : ∃ di, Fit enc Tryd.prog W 24 [c15] di := Fit.fld (T := 24) (o := 8) (z := 1) Tryd.underlying30 f_2 5 rfl rfl rfl (by kernel_rfl)
  obtain ⟨A15, n15, k15, x15, e15, p15, q15, r15, s15⟩ := f_2_5.ints Tryd.underlying24 Tryd.underlying3 (by kernel_rfl) (by kernel_rfl)
  obtain rfl : c15 = .slice A15 n15 k15 := (List.cons.inj e15).1
  obtain ⟨df_3, f_3⟩ : ∃ di, Fit enc Tryd.prog W 33 [c16, c17, c18, c19, c20, c21, c22] di := Fit.fld (T := 33) (o := 16) (z := 7) Tryd.underlying45 h 3 rfl rfl rfl (by kernel_rfl)
  obtain ⟨df_3_0, f_3_0⟩ : ∃ di, Fit enc Tryd.prog W 28 [c16, c17, c18, c19] di := Fit.fld (T := 28) (o := 0) (z := 4) Tryd.underlying33 f_3 0 rfl rfl rfl (by kernel_rfl)
  obtain ⟨df_3_0_0, f_3_0_0⟩ : ∃ di, Fit enc Tryd.prog W 3 [c16] di := Fit.fld (T := 3) (o := 0) (z := 1) Tryd.underlying28 f_3_0 0 rfl rfl rfl (by kernel_rfl)
  obtain ⟨x16, e16, b16, t16⟩ := f_3_0_0.i64 Tryd.underlying3
  obtain rfl : c16 = .int .i64 x16 := (List.cons.inj e16).1
  obtain ⟨df_3_0_1, f_3_0_1⟩ : ∃ di, Fit enc Tryd.prog W 3 [c17] di := Fit.fld (T := 3) (o := 1) (z := 1) Tryd.underlying28 f_3_0 1 rfl rfl rfl (by kernel_rfl)
  obtain ⟨x17, e17, b17, t17⟩ := f_3_0_1.i64 Tryd.underlying3
  obtain rfl : c17 = .int .i64 x17 := (List.cons.inj e17).1
  obtain ⟨df_3_0_2, f_3_0_2⟩ : ∃ di, Fit enc Tryd.prog W 3 [c18] di := Fit.fld (T := 3) (o := 2) (z := 1) Tryd.underlying28 f_3_0 2 rfl rfl rfl (by kernel_rfl)
  obtain ⟨x18, e18, b18, t18⟩ := f_3_0_2.i64 Tryd.underlying3
  obtain rfl : c18 = .int .i64 x18 := (List.cons.inj e18).1
  obtain ⟨df_3_0_3, f_3_0_3⟩ : ∃ di, Fit enc Tryd.prog W 3 [c19] di := Fit.fld (T := 3) (o := 3) (z := 1) Tryd.underlying28 f_3_0 3 rfl rfl rfl (by kernel_rfl)
  obtain ⟨x19, e19, b19, t19⟩ := f_3_0_3.i64 Tryd.underlying3
  obtain rfl : c19 = .int .i64 x19 := (List.cons.inj e19).1
  obtain ⟨df_3_1, f_3_1⟩ : ∃ di, Fit enc Tryd.prog W 3 [c20] di := Fit.fld (T := 3) (o := 4) (z := 1) Tryd.underlying33 f_3 1 rfl rfl rfl (by kernel_rfl)
  obtain ⟨x20, e20, b20, t20⟩ := f_3_1.i64 Tryd.underlying3
  obtain rfl : c20 = .int .i64 x20 := (List.cons.inj e20).1
  obtain ⟨df_3_2, f_3_2⟩ : ∃ di, Fit enc Tryd.prog W 31 [c21] di := Fit.fld (T := 31) (o := 5) (z := 1) Tryd.underlying33 f_3 2 rfl rfl rfl (by kernel_rfl)
  obtain ⟨A21, n21, k21, x21, e21, p21, q21, l21, r21, s21⟩ := f_3_2.rows Tryd.underlying31 (by kernel_rfl : Tryd.prog.cellsOf 115 = 2) (by kernel_rfl : Tryd.prog.bytesOf 115 = 16) (by omega)
  obtain rfl : c21 = .slice A21 n21 k21 := (List.cons.inj e21).1
  obtain ⟨df_3_3, f_3_3⟩ : ∃ di, Fit enc Tryd.prog W 24 [c22] di := Fit.fld (T := 24) (o := 6) (z := 1) Tryd.underlying33 f_3 3 rfl rfl rfl (by kernel_rfl)
  obtain ⟨A22, n22, k22, x22, e22, p22, q22, r22, s22⟩ := f_3_3.ints Tryd.underlying24 Tryd.underlying3 (by kernel_rfl) (by kernel_rfl)
  obtain rfl : c22 = .slice A22 n22 k22 := (List.cons.inj e22).1
  obtain ⟨df_4, f_4⟩ : ∃ di, Fit enc Tryd.prog W 35 [c23, c24, c25, c26, c27, c28] di := Fit.fld (T := 35) (o := 23) (z := 6) Tryd.underlying45 h 4 rfl rfl rfl (by kernel_rfl)
  obtain ⟨df_4_0, f_4_0⟩ : ∃ di, Fit enc Tryd.prog W 28 [c23, c24, c25, c26] di := Fit.fld (T := 28) (o := 0) (z := 4) Tryd.underlying35 f_4 0 rfl rfl rfl (by kernel_rfl)
  obtain ⟨df_4_0_0, f_4_0_0⟩ : ∃ di, Fit enc Tryd.prog W 3 [c23] di := Fit.fld (T := 3) (o := 0) (z := 1) Tryd.underlying28 f_4_0 0 rfl rfl rfl (by kernel_rfl)
  obtain ⟨x23, e23, b23, t23⟩ := f_4_0_0.i64 Tryd.underlying3
  obtain rfl : c23 = .int .i64 x23 := (List.cons.inj e23).1
  obtain ⟨df_4_0_1, f_4_0_1⟩ : ∃ di, Fit enc Tryd.prog W 3 [c24] di := Fit.fld (T := 3) (o := 1) (z := 1) Tryd.underlying28 f_4_0 1 rfl rfl rfl (by kernel_rfl)
  obtain ⟨x24, e24, b24, t24⟩ := f_4_0_1.i64 Tryd.underlying3
  obtain rfl : c24 = .int .i64 x24 := (List.cons.inj e24).1
  obtain ⟨df_4_0_2, f_4_0_2⟩ : ∃ di, Fit enc Tryd.prog W 3 [c25] di := Fit.fld (T := 3) (o := 2) (z := 1) Tryd.underlying28 f_4_0 2 rfl rfl rfl (by kernel_rfl)
  obtain ⟨x25, e25, b25, t25⟩ := f_4_0_2.i64 Tryd.underlying3
  obtain rfl : c25 = .int .i64 x25 := (List.cons.inj e25).1
  obtain ⟨df_4_0_3, f_4_0_3⟩ : ∃ di, Fit enc Tryd.prog W 3 [c26] di := Fit.fld (T := 3) (o := 3) (z := 1) Tryd.underlying28 f_4_0 3 rfl rfl rfl (by kernel_rfl)
  obtain ⟨x26, e26, b26, t26⟩ := f_4_0_3.i64 Tryd.underlying3
  obtain rfl : c26 = .int .i64 x26 := (List.cons.inj e26).1
  obtain ⟨df_4_1, f_4_1⟩ : ∃ di, Fit enc Tryd.prog W 3 [c27] di := Fit.fld (T := 3) (o := 4) (z := 1) Tryd.underlying35 f_4 1 rfl rfl rfl (by kernel_rfl)
  obtain ⟨x27, e27, b27, t27⟩ := f_4_1.i64 Tryd.underlying3
  obtain rfl : c27 = .int .i64 x27 := (List.cons.inj e27).1
  obtain ⟨df_4_2, f_4_2⟩ : ∃ di, Fit enc Tryd.prog W 3 [c28] di := Fit.fld (T := 3) (o := 5) (z := 1) Tryd.underlying35 f_4 2 rfl rfl rfl (by kernel_rfl)
  obtain ⟨x28, e28, b28, t28⟩ := f_4_2.i64 Tryd.underlying3
  obtain rfl : c28 = .int .i64 x28 := (List.cons.inj e28).1
  obtain ⟨df_5, f_5⟩ : ∃ di, Fit enc Tryd.prog W 38 [c29, c30, c31, c32, c33, c34] di := Fit.fld (T := 38) (o := 29) (z := 6) Tryd.underlying45 h 5 rfl rfl rfl (by kernel_rfl)
  obtain ⟨df_5_0, f_5_0⟩ : ∃ di, Fit enc Tryd.prog W 28 [c29, c30, c31, c32] di := Fit.fld (T := 28) (o := 0) (z := 4) Tryd.underlying38 f_5 0 rfl rfl rfl (by kernel_rfl)
  obtain ⟨df_5_0_0, f_5_0_0⟩ : ∃ di, Fit enc Tryd.prog W 3 [c29] di := Fit.fld (T := 3) (o := 0) (z := 1) Tryd.underlying28 f_5_0 0 rfl rfl rfl (by kernel_rfl)
  obtain ⟨x29, e29, b29, t29⟩ := f_5_0_0.i64 Tryd.underlying3
  obtain rfl : c29 = .int .i64 x29 := (List.cons.inj e29).1
  obtain ⟨df_5_0_1, f_5_0_1⟩ : ∃ di, Fit enc Tryd.prog W 3 [c30] di := Fit.fld (T := 3) (o := 1) (z := 1) Tryd.underlying28 f_5_0 1 rfl rfl rfl (by kernel_rfl)
  obtain ⟨x30, e30, b30, t30⟩ := f_5_0_1.i64 Tryd.underlying3
  obtain rfl : c30 = .int .i64 x30 := (List.cons.inj e30).1
  obtain ⟨df_5_0_2, f_5_0_2⟩ : ∃ di, Fit enc Tryd.prog W 3 [c31] di := Fit.fld (T := 3) (o := 2) (z := 1) Tryd.underlying28 f_5_0 2 rfl rfl rfl (by kernel_rfl)
  obtain ⟨x31, e31, b31, t31⟩ := f_5_0_2.i64 Tryd.underlying3
  obtain rfl : c31 = .int .i64 x31 := (List.cons.inj e31).1
  obtain ⟨df_5_0_3, f_5_0_3⟩ : ∃ di, Fit enc Tryd.prog W 3 [c32] di := Fit.fld (T := 3) (o := 3) (z := 1) Tryd.underlying28 f_5_0 3 rfl rfl rfl (by kernel_rfl)
  obtain ⟨x32, e32, b32, t32⟩ := f_5_0_3.i64 Tryd.underlying3
  obtain rfl : c32 = .int .i64 x32 := (List.cons.inj e32).1
  obtain ⟨df_5_1, f_5_1⟩ : ∃ di, Fit enc Tryd.prog W 3 [c33] di := Fit.fld (T := 3) (o := 4) (z := 1) Tryd.underlying38 f_5 1 rfl rfl rfl (by kernel_rfl)
  obtain ⟨x33, e33, b33, t33⟩ := f_5_1.i64 Tryd.underlying3
  obtain rfl : c33 = .int .i64 x33 := (List.cons.inj e33).1
  obtain ⟨df_5_2, f_5_2⟩ : ∃ di, Fit enc Tryd.prog W 36 [c34] di := Fit.fld (T := 36) (o := 5) (z := 1) Tryd.underlying38 f_5 2 rfl rfl rfl (by kernel_rfl)
  obtain ⟨A34, n34, k34, x34, e34, p34, q34, r34⟩ := f_5_2.bytes Tryd.underlying36 Tryd.underlying5 (by kernel_rfl) (by kernel_rfl)
  obtain rfl : c34 = .slice A34 n34 k34 := (List.cons.inj e34).1
  obtain ⟨df_6, f_6⟩ : ∃ di, Fit enc Tryd.prog W 40 [c35, c36, c37, c38, c39] di := Fit.fld (T := 40) (o := 35) (z := 5) Tryd.underlying45 h 6 rfl rfl rfl (by kernel_rfl)
  obtain ⟨df_6_0, f_6_0⟩ : ∃ di, Fit enc Tryd.prog W 28 [c35, c36, c37, c38] di := Fit.fld (T := 28) (o := 0) (z := 4) Tryd.underlying40 f_6 0 rfl rfl rfl (by kernel_rfl)
  obtain ⟨df_6_0_0, f_6_0_0⟩ : ∃ di, Fit enc Tryd.prog W 3 [c35] di := Fit.fld (T := 3) (o := 0) (z := 1) Tryd.underlying28 f_6_0 0 rfl rfl rfl (by kernel_rfl)
  obtain ⟨x35, e35, b35, t35⟩ := f_6_0_0.i64 Tryd.underlying3
  obtain rfl : c35 = .int .i64 x35 := (List.cons.inj e35).1
  obtain ⟨df_6_0_1, f_6_0_1⟩ : ∃ di, Fit enc Tryd.prog W 3 [c36] di := Fit.fld (T := 3) (o := 1) (z := 1) Tryd.underlying28 f_6_0 1 rfl rfl rfl (by kernel_rfl)
  obtain ⟨x36, e36, b36, t36⟩ := f_6_0_1.i64 Tryd.underlying3
  obtain rfl : c36 = .int .i64 x36 := (List.cons.inj e36).1
  obtain ⟨df_6_0_2, f_6_0_2⟩ : ∃ di, Fit enc Tryd.prog W 3 [c37] di := Fit.fld (T := 3) (o := 2) (z := 1) Tryd.underlying28 f_6_0 2 rfl rfl rfl (by kernel_rfl)
  obtain ⟨x37, e37, b37, t37⟩ := f_6_0_2.i64 Tryd.underlying3
  obtain rfl : c37 = .int .i64 x37 := (List.cons.inj e37).1
  obtain ⟨df_6_0_3, f_6_0_3⟩ : ∃ di, Fit enc Tryd.prog W 3 [c38] di := Fit.fld (T := 3) (o := 3) (z := 1) Tryd.underlying28 f_6_0 3 rfl rfl rfl (by kernel_rfl)
  obtain ⟨x38, e38, b38, t38⟩ := f_6_0_3.i64 Tryd.underlying3
  obtain rfl : c38 = .int .i64 x38 := (List.cons.inj e38).1
  obtain ⟨df_6_1, f_6_1⟩ : ∃ di, Fit enc Tryd.prog W 3 [c39] di := Fit.fld (T := 3) (o := 4) (z := 1) Tryd.underlying40 f_6 1 rfl rfl rfl (by kernel_rfl)
  obtain ⟨x39, e39, b39, t39⟩ := f_6_1.i64 Tryd.underlying3
  obtain rfl : c39 = .int .i64 x39 := (List.cons.inj e39).1
  obtain ⟨df_7, f_7⟩ : ∃ di, Fit enc Tryd.prog W 43 [c40, c41, c42, c43, c44] di := Fit.fld (T := 43) (o := 40) (z := 5) Tryd.underlying45 h 7 rfl rfl rfl (by kernel_rfl)
  obtain ⟨df_7_0, f_7_0⟩ : ∃ di, Fit enc Tryd.prog W 28 [c40, c41, c42, c43] di := Fit.fld (T := 28) (o := 0) (z := 4) Tryd.underlying43 f_7 0 rfl rfl rfl (by kernel_rfl)
  obtain ⟨df_7_0_0, f_7_0_0⟩ : ∃ di, Fit enc Tryd.prog W 3 [c40] di := Fit.fld (T := 3) (o := 0) (z := 1) Tryd.underlying28 f_7_0 0 rfl rfl rfl (by kernel_rfl)
  obtain ⟨x40, e40, b40, t40⟩ := f_7_0_0.i64 Tryd.underlying3
  obtain rfl : c40 = .int .i64 x40 := (List.cons.inj e40).1
  obtain ⟨df_7_0_1, f_7_0_1⟩ : ∃ di, Fit enc Tryd.prog W 3 [c41] di := Fit.fld (T := 3) (o := 1) (z := 1) Tryd.underlying28 f_7_0 1 rfl rfl rfl (by kernel_rfl)
  obtain ⟨x41, e41, b41, t41⟩ := f_7_0_1.i64 Tryd.underlying3
  obtain rfl : c41 = .int .i64 x41 := (List.cons.inj e41).1
  obtain ⟨df_7_0_2, f_7_0_2⟩ : ∃ di, Fit enc Tryd.prog W 3 [c42] di := Fit.fld (T := 3) (o := 2) (z := 1) Tryd.underlying28 f_7_0 2 rfl rfl rfl (by kernel_rfl)
  obtain ⟨x42, e42, b42, t42⟩ := f_7_0_2.i64 Tryd.underlying3
  obtain rfl : c42 = .int .i64 x42 := (List.cons.inj e42).1
  obtain ⟨df_7_0_3, f_7_0_3⟩ : ∃ di, Fit enc Tryd.prog W 3 [c43] di := Fit.fld (T := 3) (o := 3) (z := 1) Tryd.underlying28 f_7_0 3 rfl rfl rfl (by kernel_rfl)
  obtain ⟨x43, e43, b43, t43⟩ := f_7_0_3.i64 Tryd.underlying3
  obtain rfl : c43 = .int .i64 x43 := (List.cons.inj e43).1
  obtain ⟨df_7_1, f_7_1⟩ : ∃ di, Fit enc Tryd.prog W 41 [c44] di := Fit.fld (T := 41) (o := 4) (z := 1) Tryd.underlying43 f_7 1 rfl rfl rfl (by kernel_rfl)
  obtain ⟨A44, n44, k44, x44, e44, p44, q44, l44, r44, s44⟩ := f_7_1.rows Tryd.underlying41 (by kernel_rfl : Tryd.prog.cellsOf 82 = 4) (by kernel_rfl : Tryd.prog.bytesOf 82 = 48) (by omega)
  obtain rfl : c44 = .slice A44 n44 k44 := (List.cons.inj e44).1
  obtain ⟨sl, es, ls⟩ := rows_slots s21
  obtain ⟨ml, em, lm, hm⟩ := rows_datas s44
  rw [es] at r21
  rw [em] at r44
  exact ⟨{ k := x0, s := x1, si := x2, d := x3, di := x4, tk := x5, hA := A6, hn := n6, hc := k6, pA := A7, pn := n7, pc := k7, cid := x8, rev := x9, top := x10, p1 := x11, p2 := x12, p3 := x13, p4 := x14, vA := A15, vn := n15, vc := k15, f1 := x16, f2 := x17, f3 := x18, f4 := x19, base := x20, sA := A21, sn := n21, sc := k21, eA := A22, en := n22, ec := k22, w1 := x23, w2 := x24, w3 := x25, w4 := x26, done := x27, pfx := x28, t1 := x29, t2 := x30, t3 := x31, t4 := x32, seq := x33, bA := A34, bn := n34, bc := k34, a1 := x35, a2 := x36, a3 := x37, a4 := x38, upto := x39, g1 := x40, g2 := x41, g3 := x42, g4 := x43, mA := A44, mn := n44, mc := k44 }, ⟨x6, x7, x15, sl, x22, x34, ml⟩, rfl, ⟨r6, r7, r15, SlotsAt.of_rd r21, r22, r34, MsgsAt.of_rd r44 (by rw [lm, l44]) hm⟩,
    ⟨by show n6 * 8 ≤ _; omega, by show n7 * 8 ≤ _; omega, by show n15 * 8 ≤ _; omega, by show n21 * 16 ≤ _; omega, by show n22 * 8 ≤ _; omega, by show n34 ≤ _; omega, by show n44 * 48 ≤ _; omega⟩⟩
end Go.Proofs.YtffcepaegcllmaaDoor
