/-
  The document's journal: twin, Bytes, Size, Generation, New.
-/
import Derived.Test.YtpkdalpjfcopbaaDoorLText2
namespace Go.Proofs.YtpkdalpjfcopbaaDoor
open Go.RowKit
/-- Blocks of F alone have turned, and what is of F' was of F or is new. -/
def Moved (w w' : World) (F F' : Nat → Prop) : Prop := (∀ k, F' k → F k ∨ w.heap.size ≤ k) ∧ Chg F w w'
/-- All of a list of records lies in F. -/
structure RcF (F : Nat → Prop) (v : Value) (K : List Rk) : Prop where
  rows : ∀ g, v.ownBlock = some g → F g
  bod : ∀ (k : Nat) (r : Rk) (g : Nat), K[k]? = some r → r.v.ownBlock = some g → F g
/-- The document's journal in memory, all of it in F. -/
structure RJAt (w : World) (F : Nat → Prop) (kg : Nat) (j : JP) : Prop where
  ex : ∃ v K, Blk w kg 102 #[.int .i64 (j.file : Int), .int .i64 (j.gen : Int), .int .i64 (j.count : Int), v] ∧ RcOwn w 0 v K ∧ RcF F v K ∧ K.map Rk.rc = j.recs
  kgF : F kg
section
variable {w w' a b c : World} {F F' F'' : Nat → Prop} {kg : Nat} {j : JP} {S : Nat → Prop} {v : Value} {K : List Rk}
theorem Moved.refl (w : World) (F : Nat → Prop) : Moved w w F F := ⟨fun _ h => .inl h, Chg.refl _ _⟩
theorem Moved.trans (h : Moved a b F F') (k : Moved b c F' F'') : Moved a c F F'' :=
  ⟨fun i hi => (k.1 i hi).elim (fun h1 => h.1 i h1) fun h1 => .inr (Nat.le_trans h.2.size h1), h.2.thenS k.2 fun i hi hs => (h.1 i hs).elim id fun h2 => by omega⟩
theorem Moved.of_below (h : Below w.heap.size w w') : Moved w w' F F := ⟨fun _ h => .inl h, Chg.of_below h _⟩
theorem RcOwn.chgF (h : RcOwn w 0 v K) (hF : RcF F v K) (hc : Chg S w w') (hS : ∀ k, k < w.heap.size → F k → ¬ S k) : RcOwn w' 0 v K :=
  ⟨own_chg h.own hc fun g hg => hS g (own_block_lt h.own hg).1 (hF.rows g hg), fun k r hk => own_chg (h.bod k r hk) hc fun g hg => hS g (own_block_lt (h.bod k r hk) hg).1 (hF.bod k r g hk hg), h.pw⟩
theorem RJAt.chg (h : RJAt w F kg j) (hc : Chg S w w') (hS : ∀ k, k < w.heap.size → F k → ¬ S k) : RJAt w' F kg j := by
  obtain ⟨v, K, h1, h2, h3, h4⟩ := h.ex
  exact ⟨⟨v, K, h1.chg hc (hS _ h1.lt h.kgF), h2.chgF h3 hc hS, h3, h4⟩, h.kgF⟩
theorem RJAt.below (h : RJAt w F kg j) (hb : Below w.heap.size w w') : RJAt w' F kg j := h.chg (Chg.of_below hb (fun _ => False)) fun _ _ _ h => h
theorem RJAt.lt (h : RJAt w F kg j) : kg < w.heap.size := by
  obtain ⟨v, K, h1, _⟩ := h.ex
  exact h1.lt
end
set_option maxRecDepth 100000 in
set_option maxHeartbeats 800000 in
theorem twin_any {w : World} (kd : Int) (A : Option Addr) (n cap : Nat) (body : List UInt8) (hr : RdB w w.heap.size A n body) (hn : n ≤ 140737488355328) :
    Calls Tryd.prog 53 #[.agg #[.int .i64 kd, .slice A n cap]] w fun e w' => ∃ A' c', e = .returned (.agg #[.int .i64 kd, .slice A' n c']) ∧ w'.ownsRow w.heap.size 5 1 (.slice A' n c') n (bvs body) ∧ Below w.heap.size w w' := by
  obtain ⟨i0, hi0, hz0, hz1, hz2⟩ := info_parts info_u8
  obtain ⟨w1, hw1⟩ : ∃ w1, w1 = w.alloc (.cells #[.int .i64 kd, .slice A n cap] 34) := ⟨_, rfl⟩
  have hb1 : Below w.heap.size w w1 := by rw [hw1]; exact one_box' _ _
  have hR1 : Blk w1 w.heap.size 34 #[.int .i64 kd, .slice A n cap] := by rw [hw1]; exact Blk.new _ _ _
  have hz1' : w1.heap.size = w.heap.size + 1 := by rw [hw1]; simp
  obtain ⟨w2, hw2⟩ : ∃ x, x = w1.alloc (.cells #[.int .i64 0, .slice none 0 0] 34) := ⟨_, rfl⟩
  have hb2 : Below w1.heap.size w1 w2 := by rw [hw2]; exact one_box' _ _
  have hR2 : Blk w2 w1.heap.size 34 #[.int .i64 0, .slice none 0 0] := by rw [hw2]; exact Blk.new _ _ _
  have hz2' : w2.heap.size = w1.heap.size + 1 := by rw [hw2]; simp
  obtain ⟨w3, hw3⟩ : ∃ x, x = w2.alloc (.cells #[.int .i64 kd, .slice none 0 0] 34) := ⟨_, rfl⟩
  have hb3 : Below w2.heap.size w2 w3 := by rw [hw3]; exact one_box' _ _
  have hR3 : Blk w3 w2.heap.size 34 #[.int .i64 kd, .slice none 0 0] := by rw [hw3]; exact Blk.new _ _ _
  have hB3 := Below.then (Below.then hb1 hb2) hb3
  have c0 : w2.cell? ⟨w.heap.size, 0, none⟩ = some (.int .i64 kd) := (hR1.over hb2).cell 0
  have d1 : w3.cell? ⟨w.heap.size, 1, none⟩ = some (.slice A n cap) := ((hR1.over hb2).over hb3).cell 1
  have e1 : w3.cell? ⟨w2.heap.size, 1, none⟩ = some (.slice none 0 0) := hR3.cell 1
  have HW := Lib.hid (And.intro hw1 (And.intro hw2 hw3))
  have HZ := Lib.hid (And.intro hz1' hz2')
  have H3 := Lib.hid (And.intro hB3 (And.intro (hR2.over hb3) hR3))
  have HR := Lib.hid ((hr.below hB3).more hB3.size)
  have hnil : w3.ownsRow w.heap.size 5 1 (.slice none 0 0) 0 [] := ⟨by simp, .inl ⟨rfl, rfl⟩⟩
  have HNIL := Lib.hid hnil
  clear hw1 hb1 hR1 hw2 hb2 hR2 hw3 hb3 hR3 hB3 hr hz1' hz2' hnil
  go_enter Tryd.func53, Tryd.ntmps53
  go_upto_region 1 with fail
  rw [← HW.out.1, ← HW.out.2.1]
  go_upto_region 2 with fail
  rw [← HW.out.2.2]
  go_upto_region 3 with (
     at_builtin
     refine wpList_append_any _ (by rfl) _ _ 22 (by rfl) w.heap.size 5 i0 _ 1 1 u_bytes hi0 hz0 hz1 hz2 rfl (by omega) _ 0 [] (by rfl) HNIL.out w3.heap.size A n cap (bvs body) (by rfl) HR.out (bvs_one _) (by simp only [maxLen]; omega) (by omega) H3.out.1.size ?_
     intro v4 w4 ho4 hg4 _
     obtain ⟨A4, c4, rfl, _, _⟩ := own_shape ho4
     have hb4 := nil_app hg4
     have hX4 := H3.out.2.2.over hb4
     have k0 : w4.cell? ⟨w2.heap.size, 0, none⟩ = some (.int .i64 kd) := hX4.cell 0
     have k1 : w4.cell? ⟨w2.heap.size, 1, none⟩ = some (.slice none 0 0) := hX4.cell 1
     have kf := hX4.frozen 1
     have H4 := Lib.hid (And.intro ho4 (And.intro hb4 (And.intro hX4 (H3.out.2.1.over hb4))))
     clear ho4 hg4 hb4 hX4)
  obtain ⟨hz1, hz2⟩ := HZ.out
  have hR5 := H4.out.2.2.2
  rw [hz1] at hR5
  have hcs := (Chg.refl (fun k => k = w2.heap.size) w4).setCell (p := ⟨w2.heap.size, 1, none⟩) (.inl rfl) (.slice A4 n c4)
  have hX5 := H4.out.2.2.1.set_ 1 (.slice A4 n c4)
  have hR6 := hR5.chg hcs (by omega)
  have ho5 := own_chg H4.out.1 hcs fun g hg e => by
    subst e
    exact absurd ((own_isT H4.out.1 hg).eq_ H4.out.2.2.1.isT) (by decide)
  have hb5 : Below w.heap.size w (w4.setCell ⟨w2.heap.size, 1, none⟩ (.slice A4 n c4)) := (Below.then H3.out.1 H4.out.2.1).trans (hcs.to_below (Below.then H3.out.1 H4.out.2.1).size fun k e => by omega)
  clear k0 k1 kf c0 d1 e1
  generalize w4.setCell ⟨w2.heap.size, 1, none⟩ (.slice A4 n c4) = w5 at hX5 hR6 ho5 hb5 ⊢
  have k0 : w5.cell? ⟨w2.heap.size, 0, none⟩ = some (.int .i64 kd) := hX5.cell 0
  have k1 : w5.cell? ⟨w2.heap.size, 1, none⟩ = some (.slice A4 n c4) := hX5.cell 1
  have r0 : w5.cell? ⟨w.heap.size + 1, 0, none⟩ = some (.int .i64 0) := hR6.cell 0
  have r1 : w5.cell? ⟨w.heap.size + 1, 1, none⟩ = some (.slice none 0 0) := hR6.cell 1
  have q0 := hR6.frozen 0
  have q1 := hR6.frozen 1
  have H5 := Lib.hid (And.intro hR6 (And.intro ho5 hb5))
  clear hX5 hR6 ho5 hb5 hcs hR5 hz1 hz2
  go_wp2
  have hcs := ((Chg.refl (fun k => k = w.heap.size + 1) w5).setCell (p := ⟨w.heap.size + 1, 0, none⟩) (.inl rfl) (.int .i64 kd)).setCell (p := ⟨w.heap.size + 1, 1, none⟩) (.inl rfl) (.slice A4 n c4)
  refine bodyPost_ret (v := .agg #[.int .i64 kd, .slice A4 n c4]) (by simp [results, Tryd.results53, r0, r1, go_sem]) rfl ⟨A4, c4, rfl, ?_, H5.out.2.2.trans (hcs.to_below H5.out.2.2.size fun k e => by omega)⟩
  have h := own_chg H5.out.2.1 hcs fun g hg e => by
    subst e
    exact absurd ((own_isT H5.out.2.1 hg).eq_ H5.out.1.isT) (by decide)
  rw [Nat.zero_add, List.nil_append] at h
  exact h
set_option maxRecDepth 100000 in
theorem Bytes_any {w : World} {F : Nat → Prop} {kg : Nat} {j : JP} (h : RJAt w F kg j) (hf : j.Fine) :
    Calls Tryd.prog 54 #[.pointer (some ⟨kg, 0, none⟩)] w fun e w' => ∃ A' c', e = .returned (.slice A' j.text.length c') ∧ w'.ownsRow w.heap.size 5 1 (.slice A' j.text.length c') j.text.length (bvs j.text) ∧ Below w.heap.size w w' := by
  obtain ⟨v, K, hB, hK, _, hm⟩ := h.ex
  obtain ⟨Av, cv, rfl, _, _⟩ := hK.shape
  have c1 : w.cell? ⟨kg, 1, none⟩ = some (.int .i64 (j.gen : Int)) := hB.cell 1
  have c2 : w.cell? ⟨kg, 2, none⟩ = some (.int .i64 (j.count : Int)) := hB.cell 2
  have c3 : w.cell? ⟨kg, 3, none⟩ = some (.slice Av K.length cv) := hB.cell 3
  have hr : RcRd w (fun _ => False) Av K.length j.recs := by rw [← hm]; exact hK.rd fun _ _ _ h => h
  have hl : j.text.length = 18 + bodies j.recs := textB_length _ _ _
  have hbd : bodies j.recs ≤ 65536 := by have := hf.len; omega
  have HT := Lib.hid (Rtext_any (w := w.drew) j.gen j.count Av K.length cv j.recs (hr.chg (S := fun _ => False) ((Chg.refl _ w).drew) fun _ _ h => h) hf.ok (by have := hf.gen; omega) (by have := hf.count; omega) (by omega))
  rw [hl]
  clear h hf hB hK hm hr hl
  go_enter Tryd.func54, Tryd.ntmps54
  go_wp2_with fail
  refine region_tail 12 (by kernel_rfl) (by kernel_rfl) ?_
  simp only [List.take_succ_cons, List.take_zero, List.drop_succ_cons, List.drop_zero]
  repeat still_step
  refine wpStill_nil ?_
  go_wp2_with (go_at_call 73; refine HT.out.mono ?_; rintro _ w2 ⟨A2, c2', rfl, ho2, hb2⟩)
  go_ret
  exact ⟨A2, c2', rfl, ho2, (below_drewN (Below.refl _ w) 1).trans hb2⟩
theorem RSize_any {w : World} {F : Nat → Prop} {kg : Nat} {j : JP} (h : RJAt w F kg j) (hf : j.Fine) :
    Calls Tryd.prog 23 #[.pointer (some ⟨kg, 0, none⟩)] w fun e w' => e = .returned (.int .i64 ((j.text.length : Nat) : Int)) ∧ Below w.heap.size w w' := by
  have HB := Lib.hid (Bytes_any h hf)
  clear h hf
  go_enter Tryd.func23, Tryd.ntmps23
  go_wp2_with (go_at_call 54; refine HB.out.mono ?_; rintro _ w2 ⟨A2, c2', rfl, ho2, hb2⟩)
  go_ret
  exact ⟨rfl, hb2⟩
theorem RGeneration_any {w : World} {F : Nat → Prop} {kg : Nat} {j : JP} (h : RJAt w F kg j) :
    Calls Tryd.prog 25 #[.pointer (some ⟨kg, 0, none⟩)] w fun e w' => e = .returned (.int .i64 (j.gen : Int)) ∧ w' = w := by
  obtain ⟨v, K, hB, _, _⟩ := h.ex
  have c1 : w.cell? ⟨kg, 1, none⟩ = some (.int .i64 (j.gen : Int)) := hB.cell 1
  clear hB h
  go_enter Tryd.func25, Tryd.ntmps25
  go_wp2
  go_ret
  exact ⟨rfl, rfl⟩
end Go.Proofs.YtpkdalpjfcopbaaDoor
