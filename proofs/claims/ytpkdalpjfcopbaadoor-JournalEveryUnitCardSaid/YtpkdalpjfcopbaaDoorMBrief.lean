/-
  JournalEveryUnit: brief.
-/
import Derived.Test.YtpkdalpjfcopbaaDoorMDesk
namespace Go.Proofs.YtpkdalpjfcopbaaDoor
open Go.RowKit
set_option maxRecDepth 100000 in
set_option maxHeartbeats 800000 in
theorem brief_any {w : World} (kd on kn ln rk : Int) (A : Option Addr) (n cap : Nat) (hn : n ≤ cap) :
    Calls Tryd.prog 33 #[.agg #[.int .i64 kd, .int .i64 on, .int .i64 kn, .int .i64 ln, .int .i64 rk, .slice A n cap]] w fun e w' => e = .returned (.agg #[.int .i64 kd, .int .i64 on, .int .i64 kn, .int .i64 ln, .int .i64 rk, .slice A (min n 40) cap]) ∧ Below w.heap.size w w' := by
  obtain ⟨m, hm⟩ : ∃ m, min n 40 = m := ⟨_, rfl⟩
  rw [hm]
  have HM := Lib.hid hm
  clear hm
  obtain ⟨w1, hw1⟩ : ∃ w1, w1 = w.alloc (.cells #[.int .i64 kd, .int .i64 on, .int .i64 kn, .int .i64 ln, .int .i64 rk, .slice A n cap] 57) := ⟨_, rfl⟩
  have hb1 : Below w.heap.size w w1 := by rw [hw1]; exact one_box' _ _
  have hX1 : Blk w1 w.heap.size 57 #[.int .i64 kd, .int .i64 on, .int .i64 kn, .int .i64 ln, .int .i64 rk, .slice A n cap] := by rw [hw1]; exact Blk.new _ _ _
  have hz1 : w1.heap.size = w.heap.size + 1 := by rw [hw1]; simp
  obtain ⟨w2, hw2⟩ : ∃ w2, w2 = w1.alloc (.cells #[.int .i64 0, .int .i64 0, .int .i64 0, .int .i64 0, .int .i64 0, .slice none 0 0] 57) := ⟨_, rfl⟩
  have hb2 : Below w1.heap.size w1 w2 := by rw [hw2]; exact one_box' _ _
  have hR2 : Blk w2 (w.heap.size + 1) 57 #[.int .i64 0, .int .i64 0, .int .i64 0, .int .i64 0, .int .i64 0, .slice none 0 0] := by rw [hw2, ← hz1]; exact Blk.new _ _ _
  have hX2 := hX1.over hb2
  have HB2 : Hid (Below w.heap.size w w2) := Lib.hid (Below.then hb1 hb2)
  have HX := Lib.hid hX2
  have HR := Lib.hid hR2
  have HW := Lib.hid (And.intro hw1 (And.intro hw2 hz1))
  clear hw1 hb1 hX1 hz1 hw2 hb2 hR2 hX2
  go_enter Tryd.func33, Tryd.ntmps33
  go_upto_region 1 with fail
  rw [← HW.out.1, ← HW.out.2.1]
  try rw [HW.out.2.2]
  by_cases hbig : 40 < n
  · have hI : (40 : Int) < (n : Int) := by omega
    have hI2 : (40 : Int) ≤ (cap : Int) := by omega
    obtain rfl : m = 40 := by have := HM.out; omega
    have c5 : w2.cell? ⟨w.heap.size, 5, none⟩ = some (.slice A n cap) := HX.out.cell 5
    have xf := HX.out.frozen 5
    go_upto_region 3 with fail
    have hcs : Chg (fun k => k = w.heap.size) w2 (w2.setCell ⟨w.heap.size, 5, none⟩ (.slice A 40 cap)) := (Chg.refl (fun k => k = w.heap.size) w2).setCell (p := ⟨w.heap.size, 5, none⟩) (.inl rfl) _
    have HX3 := Lib.hid (HX.out.set_ 5 (.slice A 40 cap))
    have HR3 := Lib.hid (HR.out.chg hcs (by omega))
    have HB3 : Hid (Below w.heap.size w (w2.setCell ⟨w.heap.size, 5, none⟩ (.slice A 40 cap))) := Lib.hid (HB2.out.trans (hcs.to_below HB2.out.size fun k e => by omega))
    clear c5 xf hcs
    generalize w2.setCell ⟨w.heap.size, 5, none⟩ (.slice A 40 cap) = w3 at HX3 HR3 HB3 ⊢
    have c0 : w3.cell? ⟨w.heap.size, 0, none⟩ = some (.int .i64 kd) := HX3.out.cell 0
    have c1 : w3.cell? ⟨w.heap.size, 1, none⟩ = some (.int .i64 on) := HX3.out.cell 1
    have c2 : w3.cell? ⟨w.heap.size, 2, none⟩ = some (.int .i64 kn) := HX3.out.cell 2
    have c3 : w3.cell? ⟨w.heap.size, 3, none⟩ = some (.int .i64 ln) := HX3.out.cell 3
    have c4 : w3.cell? ⟨w.heap.size, 4, none⟩ = some (.int .i64 rk) := HX3.out.cell 4
    have c5 : w3.cell? ⟨w.heap.size, 5, none⟩ = some (.slice A 40 cap) := HX3.out.cell 5
    have y0 : w3.cell? ⟨w.heap.size + 1, 0, none⟩ = some (.int .i64 0) := HR3.out.cell 0
    have y1 : w3.cell? ⟨w.heap.size + 1, 1, none⟩ = some (.int .i64 0) := HR3.out.cell 1
    have y2 : w3.cell? ⟨w.heap.size + 1, 2, none⟩ = some (.int .i64 0) := HR3.out.cell 2
    have y3 : w3.cell? ⟨w.heap.size + 1, 3, none⟩ = some (.int .i64 0) := HR3.out.cell 3
    have y4 : w3.cell? ⟨w.heap.size + 1, 4, none⟩ = some (.int .i64 0) := HR3.out.cell 4
    have y5 : w3.cell? ⟨w.heap.size + 1, 5, none⟩ = some (.slice none 0 0) := HR3.out.cell 5
    have f0 := HR3.out.frozen 0
    have f1 := HR3.out.frozen 1
    have f2 := HR3.out.frozen 2
    have f3 := HR3.out.frozen 3
    have f4 := HR3.out.frozen 4
    have f5 := HR3.out.frozen 5
    go_wp2_with fail
    refine bodyPost_ret (v := .agg #[.int .i64 kd, .int .i64 on, .int .i64 kn, .int .i64 ln, .int .i64 rk, .slice A 40 cap]) (by simp [results, Tryd.results33, y0, y1, y2, y3, y4, y5, go_sem]) rfl ⟨rfl, ?_⟩
    have hx : ∀ (W : World) (i : Nat) (u : Value), Below w.heap.size w W → Below w.heap.size w (W.setCell ⟨w.heap.size + 1, i, none⟩ u) := fun W i u h => h.trans (((Chg.refl (fun k => k = w.heap.size + 1) W).setCell (p := ⟨w.heap.size + 1, i, none⟩) (.inl rfl) u).to_below h.size fun k e => by omega)
    exact hx _ _ _ (hx _ _ _ (hx _ _ _ (hx _ _ _ (hx _ _ _ (hx _ _ _ HB3.out)))))
  · have hI : ¬ (40 : Int) < (n : Int) := by omega
    obtain rfl : m = n := by have := HM.out; omega
    have HX3 := HX
    have HR3 := HR
    have HB3 := HB2
    have c0 : w2.cell? ⟨w.heap.size, 0, none⟩ = some (.int .i64 kd) := HX3.out.cell 0
    have c1 : w2.cell? ⟨w.heap.size, 1, none⟩ = some (.int .i64 on) := HX3.out.cell 1
    have c2 : w2.cell? ⟨w.heap.size, 2, none⟩ = some (.int .i64 kn) := HX3.out.cell 2
    have c3 : w2.cell? ⟨w.heap.size, 3, none⟩ = some (.int .i64 ln) := HX3.out.cell 3
    have c4 : w2.cell? ⟨w.heap.size, 4, none⟩ = some (.int .i64 rk) := HX3.out.cell 4
    have c5 : w2.cell? ⟨w.heap.size, 5, none⟩ = some (.slice A m cap) := HX3.out.cell 5
    have y0 : w2.cell? ⟨w.heap.size + 1, 0, none⟩ = some (.int .i64 0) := HR3.out.cell 0
    have y1 : w2.cell? ⟨w.heap.size + 1, 1, none⟩ = some (.int .i64 0) := HR3.out.cell 1
    have y2 : w2.cell? ⟨w.heap.size + 1, 2, none⟩ = some (.int .i64 0) := HR3.out.cell 2
    have y3 : w2.cell? ⟨w.heap.size + 1, 3, none⟩ = some (.int .i64 0) := HR3.out.cell 3
    have y4 : w2.cell? ⟨w.heap.size + 1, 4, none⟩ = some (.int .i64 0) := HR3.out.cell 4
    have y5 : w2.cell? ⟨w.heap.size + 1, 5, none⟩ = some (.slice none 0 0) := HR3.out.cell 5
    have f0 := HR3.out.frozen 0
    have f1 := HR3.out.frozen 1
    have f2 := HR3.out.frozen 2
    have f3 := HR3.out.frozen 3
    have f4 := HR3.out.frozen 4
    have f5 := HR3.out.frozen 5
    go_wp2_with fail
    refine bodyPost_ret (v := .agg #[.int .i64 kd, .int .i64 on, .int .i64 kn, .int .i64 ln, .int .i64 rk, .slice A m cap]) (by simp [results, Tryd.results33, y0, y1, y2, y3, y4, y5, go_sem]) rfl ⟨rfl, ?_⟩
    have hx : ∀ (W : World) (i : Nat) (u : Value), Below w.heap.size w W → Below w.heap.size w (W.setCell ⟨w.heap.size + 1, i, none⟩ u) := fun W i u h => h.trans (((Chg.refl (fun k => k = w.heap.size + 1) W).setCell (p := ⟨w.heap.size + 1, i, none⟩) (.inl rfl) u).to_below h.size fun k e => by omega)
    exact hx _ _ _ (hx _ _ _ (hx _ _ _ (hx _ _ _ (hx _ _ _ (hx _ _ _ HB3.out)))))
end Go.Proofs.YtpkdalpjfcopbaaDoor
