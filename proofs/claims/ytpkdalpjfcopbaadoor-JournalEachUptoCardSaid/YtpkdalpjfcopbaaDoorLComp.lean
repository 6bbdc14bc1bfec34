/-
  The document's journal: Compact.
-/
import Derived.Test.YtpkdalpjfcopbaaDoorLApp
namespace Go.Proofs.YtpkdalpjfcopbaaDoor
open Go.RowKit
theorem compact_fine {j : JP} {r : Rc} (hf : j.Fine) (hr : r.ok = true) (hg : j.gen ≠ 4611686018427387904) : (JP.mk (1 - j.file) (j.gen + 1) 1 [r]).Fine := by
  obtain ⟨k, _, _, _, hb⟩ := Rc.ok_k hr
  have := hf.gen
  refine ⟨by show 1 - j.file ≤ 1; omega, ⟨by show 1 ≤ j.gen + 1; omega, by show j.gen + 1 ≤ _; omega⟩, by show 1 < _; omega, ?_, fun x hx => by simp at hx; rw [hx]; exact hr⟩
  show (textB _ _ _).length ≤ 65536
  rw [textB_length]
  simp [bodies]
  omega
theorem own_one {w : World} {g : Nat} {a b : Value} (h : Blk w g 34 #[a, b]) : w.ownsRow 0 34 2 (.slice (some ⟨g, 0, none⟩) 1 1) 1 [a, b] :=
  ⟨by simp, .inr ⟨g, 1, _, rfl, Nat.zero_le _, h, by omega, by simp [maxLen], by simp, by simp⟩⟩
set_option maxRecDepth 100000 in
set_option maxHeartbeats 1600000 in
theorem RCompact_any {w : World} {F : Nat → Prop} {kg : Nat} {j : JP} (kd : Int) (A : Option Addr) (n cap : Nat) (body : List UInt8) (h : RJAt w F kg j) (hf : j.Fine) (hr : RdB w w.heap.size A n body) (hn : n ≤ 140737488355328) :
    Calls Tryd.prog 61 #[.pointer (some ⟨kg, 0, none⟩), .agg #[.int .i64 kd, .slice A n cap]] w (RWrote w F kg (j.compact ⟨kd, body⟩)) := by
  obtain ⟨w1, hw1⟩ : ∃ w1, w1 = w.alloc (.cells #[.int .i64 kd, .slice A n cap] 34) := ⟨_, rfl⟩
  have hb1 : Below w.heap.size w w1 := by rw [hw1]; exact one_box' _ _
  have hB1 : Blk w1 w.heap.size 34 #[.int .i64 kd, .slice A n cap] := by rw [hw1]; exact Blk.new _ _ _
  have hlb := hr.lenB
  have HV := Lib.hid (Valid_any kd A n cap w1 (by omega))
  obtain ⟨x, hx⟩ : ∃ x, x = j.compact ⟨kd, body⟩ := ⟨_, rfl⟩
  rw [← hx]
  have hx2 := hx
  unfold JP.compact at hx2
  have eok : (⟨kd, body⟩ : Rc).ok = okB kd n := by rw [← okB_rc, hlb]
  rw [eok] at hx2
  have c0 : w1.cell? ⟨w.heap.size, 0, none⟩ = some (.int .i64 kd) := hB1.cell 0
  have c1 : w1.cell? ⟨w.heap.size, 1, none⟩ = some (.slice A n cap) := hB1.cell 1
  have hff := hf.file
  have hgg := hf.gen
  have HF := Lib.hid hf
  have HB1 := Lib.hid hb1
  have HX1 := Lib.hid hB1
  have HP := Lib.hid h
  have HR := Lib.hid hr
  have HW1 := Lib.hid hw1
  have HL := Lib.hid hlb
  clear hb1 hB1 h hr hw1 hlb hx eok hf
  cases hv : okB kd n with
  | false =>
    rw [hv] at HV hx2
    have HE := Lib.hid (show x = (j, [], 121) from hx2)
    clear hx2 hv
    go_enter Tryd.func61, Tryd.ntmps61
    go_upto_region 1 with fail
    rw [← HW1.out]
    go_wp2_with (go_at_call 57; refine HV.out.mono ?_; rintro _ w2 ⟨rfl, hb2⟩; have HB2 := Lib.hid (Below.then HB1.out hb2); clear hb2)
    go_ret2
    rw [HE.out]
    exact ⟨_, F, rfl, HP.out.below HB2.out, WOut.nil, Moved.of_below HB2.out⟩
  | true =>
    rw [hv] at HV hx2
    simp only [if_true] at hx2
    have hok : (⟨kd, body⟩ : Rc).ok = true := by rw [← okB_rc, HL.out]; exact hv
    have HOK := Lib.hid hok
    clear hok hv
    go_enter Tryd.func61, Tryd.ntmps61
    go_upto_region 1 with fail
    rw [← HW1.out]
    go_upto_region 4 with (go_at_call 57; refine HV.out.mono ?_; rintro _ w2 ⟨rfl, hb2⟩; have HB2 := Lib.hid (Below.then HB1.out hb2); have HX2 := Lib.hid (HX1.out.over hb2); clear hb2)
    clear c0 c1 HV HX1 HB1
    obtain ⟨v, KL, hB, hK, hKF, hm⟩ := (HP.out.below HB2.out).ex
    obtain ⟨Av, cv, rfl, _, _⟩ := hK.shape
    have j1 : w2.cell? ⟨kg, 1, none⟩ = some (.int .i64 (j.gen : Int)) := hB.cell 1
    have c0 : w2.cell? ⟨w.heap.size, 0, none⟩ = some (.int .i64 kd) := HX2.out.cell 0
    have c1 : w2.cell? ⟨w.heap.size, 1, none⟩ = some (.slice A n cap) := HX2.out.cell 1
    by_cases hgm : j.gen = 4611686018427387904
    · rw [if_pos hgm] at hx2
      have HE := Lib.hid hx2
      have b0 : ((j.gen : Int) == 4611686018427387904) = true := by rw [hgm]; rfl
      clear hx2 hgm hB hK hKF hm
      go_wp2
      go_ret2
      rw [HE.out]
      exact ⟨_, F, rfl, HP.out.below HB2.out, WOut.nil, Moved.of_below HB2.out⟩
    · rw [if_neg hgm] at hx2
      have HE := Lib.hid hx2
      have b0 : ((j.gen : Int) == 4611686018427387904) = false := by simp only [beq_eq_false_iff_ne, ne_eq]; omega
      have HG : Hid (j.gen ≠ 4611686018427387904) := Lib.hid hgm
      have HTW := Lib.hid (twin_any (w := w2) kd A n cap body ((HR.out.below HB2.out).more HB2.out.size) hn)
      have HBJ := Lib.hid hB
      clear hx2 hgm hB hK hKF hm
      go_upto_region 7 with (go_at_call 53; refine HTW.out.mono ?_; rintro _ w3 ⟨A3, c3, rfl, ho3, hb3⟩; have H3 := Lib.hid (And.intro ho3 hb3); clear ho3 hb3)
      have HB3 := Lib.hid (HB2.out.trans (H3.out.2.mono HB2.out.size))
      obtain ⟨w4, hw4⟩ : ∃ y, y = w3.alloc (.cells #[.int .i64 kd, .slice A3 n c3] 34) := ⟨_, rfl⟩
      rw [← hw4]
      have hb4 : Below w3.heap.size w3 w4 := by rw [hw4]; exact one_box' _ _
      have hX4 : Blk w4 w3.heap.size 34 #[.int .i64 kd, .slice A3 n c3] := by rw [hw4]; exact Blk.new _ _ _
      have hB4 := (HBJ.out.over H3.out.2).over hb4
      have hkglt := HP.out.lt
      have hl2 := HB2.out.size
      have hl3 := HB3.out.size
      have i0 : w4.cell? ⟨kg, 0, none⟩ = some (.int .i64 (j.file : Int)) := hB4.cell 0
      have i1 : w4.cell? ⟨kg, 1, none⟩ = some (.int .i64 (j.gen : Int)) := hB4.cell 1
      have i2 : w4.cell? ⟨kg, 2, none⟩ = some (.int .i64 (j.count : Int)) := hB4.cell 2
      have i3 : w4.cell? ⟨kg, 3, none⟩ = some (.slice Av KL.length cv) := hB4.cell 3
      have f0 := hB4.frozen 0
      have f1 := hB4.frozen 1
      have f2 := hB4.frozen 2
      have f3 := hB4.frozen 3
      have x0 : w4.cell? ⟨w3.heap.size, 0, none⟩ = some (.int .i64 kd) := hX4.cell 0
      have x1 : w4.cell? ⟨w3.heap.size, 1, none⟩ = some (.slice A3 n c3) := hX4.cell 1
      have hne : kg ≠ w3.heap.size := by omega
      have H4 := Lib.hid (And.intro (HB3.out.trans (hb4.mono hl3)) (And.intro hX4 (And.intro hB4 (own_over H3.out.1 hb4))))
      clear hw4 hb4 hX4 hB4 j1 c0 c1
      go_upto_region 10 with fail
      have eF : (1 : Int) - (j.file : Int) = ((1 - j.file : Nat) : Int) := by omega
      have eG : (j.gen : Int) + 1 = ((j.gen + 1 : Nat) : Int) := by omega
      rw [eF, eG]
      have hc5 := (((Chg.refl (fun y => y = kg) w4).setCell (p := ⟨kg, 0, none⟩) (.inl rfl) (.int .i64 ((1 - j.file : Nat) : Int))).setCell (p := ⟨kg, 1, none⟩) (.inl rfl) (.int .i64 ((j.gen + 1 : Nat) : Int))).setCell (p := ⟨kg, 2, none⟩) (.inl rfl) (.int .i64 1)
      have hB5 : Blk _ kg 102 #[.int .i64 ((1 - j.file : Nat) : Int), .int .i64 ((j.gen + 1 : Nat) : Int), .int .i64 1, .slice Av KL.length cv] := ((H4.out.2.2.1.set_ 0 (.int .i64 ((1 - j.file : Nat) : Int))).set_ 1 (.int .i64 ((j.gen + 1 : Nat) : Int))).set_ 2 (.int .i64 1)
      clear eF eG i0 i1 i2 i3 f0 f1 f2 f3 x0 x1
      generalize World.setCell _ _ _ = w5 at hc5 hB5 ⊢
      have hX5 := H4.out.2.1.chg hc5 (by omega)
      have hO5 := own_chg H4.out.2.2.2 hc5 fun g hg e => by
        have := (own_block_lt H4.out.2.2.2 hg).2.1
        omega
      have i3 : w5.cell? ⟨kg, 3, none⟩ = some (.slice Av KL.length cv) := hB5.cell 3
      have f3 := hB5.frozen 3
      have x0 : w5.cell? ⟨w3.heap.size, 0, none⟩ = some (.int .i64 kd) := hX5.cell 0
      have x1 : w5.cell? ⟨w3.heap.size, 1, none⟩ = some (.slice A3 n c3) := hX5.cell 1
      have hkg5 : kg < w5.heap.size := hB5.lt
      have hne5 : kg ≠ w5.heap.size := by omega
      have H5 := Lib.hid (And.intro hc5 (And.intro hB5 hO5))
      clear hc5 hB5 hX5 hO5
      go_upto_region 11 with fail
      have hcs := ((Chg.refl (fun y => y = kg) w5).setCell (p := ⟨kg, 3, none⟩) (.inl rfl) (.slice (some ⟨w5.heap.size, 0, none⟩) 1 1)).alloc (.cells #[.int .i64 kd, .slice A3 n c3] 34)
      have hB6 := (H5.out.2.1.set_ 3 (.slice (some ⟨w5.heap.size, 0, none⟩) 1 1)).alloc (.cells #[.int .i64 kd, .slice A3 n c3] 34)
      have hsz : (w5.setCell ⟨kg, 3, none⟩ (.slice (some ⟨w5.heap.size, 0, none⟩) 1 1)).heap.size = w5.heap.size := by simp [World.setCell]
      have hX6 := Blk.new (w5.setCell ⟨kg, 3, none⟩ (.slice (some ⟨w5.heap.size, 0, none⟩) 1 1)) 34 #[.int .i64 kd, .slice A3 n c3]
      rw [hsz] at hX6
      clear hsz i3 f3 x0 x1
      generalize (w5.setCell ⟨kg, 3, none⟩ (.slice (some ⟨w5.heap.size, 0, none⟩) 1 1)).alloc (.cells #[.int .i64 kd, .slice A3 n c3] 34) = w6 at hcs hB6 hX6 ⊢
      have hO6 : w6.ownsRow 0 5 1 (.slice A3 n c3) n (bvs body) := own_base (own_chg H5.out.2.2 hcs fun g hg e => by
        have := (own_block_lt H5.out.2.2 hg).2.1
        omega) (Nat.zero_le _)
      have hnew : ∀ g, (Value.slice A3 n c3).ownBlock = some g → w.heap.size ≤ g := fun g hg => Nat.le_trans hl2 (own_block_lt H5.out.2.2 hg).2.1
      have hL := HL.out
      have hJ6 : RJAt w6 (fun y => y = kg ∨ y = w5.heap.size ∨ (Value.slice A3 n c3).ownBlock = some y) kg ⟨1 - j.file, j.gen + 1, 1, [⟨kd, body⟩]⟩ := by
        refine ⟨⟨.slice (some ⟨w5.heap.size, 0, none⟩) 1 1, [⟨⟨kd, body⟩, .slice A3 n c3⟩], hB6, ⟨?_, fun k r hk => ?_, fun k k' r r' g hk hk' _ _ => ?_⟩, ⟨fun g hg => ?_, fun k r g hk hg => ?_⟩, rfl⟩, .inl rfl⟩
        · exact own_one hX6
        · have : k = 0 := by
            have := (List.getElem?_eq_some_iff.1 hk).1
            simp at this
            omega
          subst this
          simp only [List.getElem?_cons_zero, Option.some.injEq] at hk
          subst hk
          dsimp only
          rw [hL]
          exact hO6
        · have h1 := (List.getElem?_eq_some_iff.1 hk).1
          have h2 := (List.getElem?_eq_some_iff.1 hk').1
          simp at h1 h2
          omega
        · simp only [Value.ownBlock, Option.some.injEq] at hg
          exact .inr (.inl hg.symm)
        · have : k = 0 := by
            have := (List.getElem?_eq_some_iff.1 hk).1
            simp at this
            omega
          subst this
          simp only [List.getElem?_cons_zero, Option.some.injEq] at hk
          subst hk
          exact .inr (.inr hg)
      have hsz5 : w.heap.size ≤ w5.heap.size := by
        have h1 := H4.out.1.size
        have h2 := H5.out.1.size
        omega
      have hM6 : Moved w w6 F (fun y => y = kg ∨ y = w5.heap.size ∨ (Value.slice A3 n c3).ownBlock = some y) := by
        refine ⟨fun y hy => ?_, ((Chg.of_below H4.out.1 F).thenS H5.out.1 fun i _ e => e ▸ HP.out.kgF).thenS hcs fun i _ e => e ▸ HP.out.kgF⟩
        rcases hy with e | e | e
        · exact .inl (e ▸ HP.out.kgF)
        · exact .inr (by omega)
        · exact .inr (hnew y e)
      have HBY := Lib.hid (Bytes_any hJ6 (compact_fine HF.out HOK.out HG.out))
      obtain ⟨tx, htx⟩ : ∃ tx, tx = JP.text ⟨1 - j.file, j.gen + 1, 1, [⟨kd, body⟩]⟩ := ⟨_, rfl⟩
      have htl : tx.length = 26 + n := by
        rw [htx]
        show (textB _ _ _).length = _
        rw [textB_length]
        simp [bodies, hL]
        omega
      have hn4 : n ≤ 4200 := by
        obtain ⟨_, _, _, _, h⟩ := Rc.ok_k HOK.out
        simp only at h
        omega
      rw [← htx, htl] at HBY
      have HTX := Lib.hid (And.intro htx htl)
      have H6 := Lib.hid (And.intro hJ6 hM6)
      clear hcs hB6 hX6 hO6 hnew hJ6 hM6 hL htx htl hsz5
      go_upto_region 12 with (go_at_call 54; refine HBY.out.mono ?_; rintro _ w7 ⟨A7, c7, rfl, ho7, hb7⟩; obtain ⟨g7, rfl, _, _, _⟩ := own_open ho7 (by omega); have H7 := Lib.hid (And.intro ho7 hb7); clear ho7 hb7)
      have hJ7 := H6.out.1.below H7.out.2
      obtain ⟨v7, K7, hB7, _⟩ := id hJ7.ex
      have j0 : w7.cell? ⟨kg, 0, none⟩ = some (.int .i64 ((1 - j.file : Nat) : Int)) := hB7.cell 0
      have HJ7 := Lib.hid hJ7
      clear hB7 hJ7
      go_wp2
      go_ret2
      rw [HE.out]
      have hM7 := H6.out.2.trans (Moved.of_below H7.out.2)
      have etx : textB (j.gen + 1) 1 [⟨kd, body⟩] = tx := HTX.out.1.symm
      refine ⟨_, _, rfl, HJ7.out.below (one_box' _ _), ?_, hM7.1, hM7.2.alloc _⟩
      rw [etx]
      exact wout_one (x := ⟨((1 - j.file : Nat) : Int), true, tx⟩) HTX.out.2 (by omega) (own_base H7.out.1 H6.out.2.2.size) hM7.2.size
end Go.Proofs.YtpkdalpjfcopbaaDoor
