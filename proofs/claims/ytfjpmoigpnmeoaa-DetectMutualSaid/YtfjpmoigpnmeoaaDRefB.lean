/-
  The document's detector: Beat.
-/
import Derived.Test.YtfjpmoigpnmeoaaDRefL
namespace Go.Proofs.Ytfjpmoigpnmeoaa
open Go.RowKit
variable {w : World} {F : Nat → Prop} {c : Cfg} {K : Nat} {l : List Ev} {v : Value}
theorem cntT_take {l : List Ev} {k : Nat} {x : Ev} (hx : l[k]? = some x) : cntT (l.take (k + 1)) = cntT (l.take k) + if x.kind = 1 then 1 else 0 := by
  rw [List.take_add_one, hx]; exact cntT_snoc _ _
set_option maxRecDepth 100000 in
set_option maxHeartbeats 6400000 in
theorem RBeat_any (hc : c.Ok) (h : RD w F c K l v) (hF : ∀ k, F k → k < w.heap.size) (hl : ∀ x ∈ l, x.Ok) (hn : l.length < 3518437208883) :
    Calls Try.prog 54 #[.pointer (some ⟨K, 0, none⟩)] w (GivesB w (dOf c l).tick (hearsL c (dOf c l))) := by
  have HTK : Hid ((dOf c l).tick = (cntT l : Int)) := Lib.hid (dOf_tick c l (by omega))
  have hb0 := one_box' w (.cells #[.int .i64 0, .slice none 0 0] 37)
  have hO := Blk.new w 37 #[.int .i64 0, .slice none 0 0]
  have hD0 := h.below hF hb0
  obtain ⟨w0, hw0⟩ : ∃ w0, w0 = w.alloc (.cells #[.int .i64 0, .slice none 0 0] 37) := ⟨_, rfl⟩
  rw [← hw0] at hO hb0 hD0
  have HW := Lib.hid hw0
  have hs0 := hb0.size
  have HRB := Lib.hid hO.lt
  have HH := Lib.hid (RHears_any hc hD0 (fun k hk => by have := hF k hk; omega) hl hn)
  have HD := Lib.hid hD0
  have HLN : Hid (l.take l.length = l) := Lib.hid (List.take_length ..)
  obtain ⟨A, cap, rfl, hcp, hcm⟩ := own_shape hD0.row
  obtain ⟨c0, c1, c2, c3, c4, c5, c6⟩ := hD0.cell
  have HO := Lib.hid hO
  generalize hLN : l.length = n at *
  have HLL := Lib.hid hLN
  have HCN := Lib.hid fun k => cntT_le (l.take k)
  clear hw0 h hF hO hD0 hLN
  generalize hHL : hearsL c (dOf c l) = hL at *
  clear hHL
  go_enter Try.func54, Try.ntmps54
  go_upto_region 1 with fail
  rw [← HW.out]
  go_wp2_with fail
  go_loop [3, 4] (fun m i => ∃ k : Nat, k ≤ n ∧ i = .int .i64 (k : Int) ∧ m = .int .i64 (cntT (l.take k) : Int)) (fun _ i => n - (intOf i).toNat)
  case atStart => exact ⟨0, by omega, rfl, by simp [cntT]⟩
  case round =>
    obtain ⟨k, hk, rfl, rfl⟩ := hrel
    by_cases hlt : k < n
    · have hI : (k : Int) < (n : Int) := by omega
      obtain ⟨g, cap', cur, hv, _⟩ := own_parts HD.out.row (by rw [HLL.out]; omega)
      simp only [Value.slice.injEq] at hv
      obtain ⟨rfl, _, rfl⟩ := hv
      obtain ⟨x, hx⟩ : ∃ x, l[k]? = some x := ⟨_, List.getElem?_eq_getElem (by rw [HLL.out]; exact hlt)⟩
      have hDe := HD.out
      obtain ⟨e0, e1, e2, e3, e4⟩ := hDe.ev hx
      have HS := Lib.hid (cntT_take hx)
      have hcn := HCN.out k
      rw [List.length_take] at hcn
      generalize cntT (l.take k) = m at *
      have hm : m ≤ n := by omega
      clear hcn hDe
      by_cases h1 : x.kind = 1
      · have b1 : (x.kind == 1) = true := by simpa using h1
        have HS2 : Hid (cntT (l.take (k + 1)) = m + 1) := Lib.hid (by rw [HS.out, if_pos h1])
        clear h1 hx
        go_wp2
        go_round
        case rel => exact ⟨k + 1, by omega, by go_num, by rw [HS2.out]; go_num⟩
        case measure => simp [intOf] <;> omega
      · have b1 : (x.kind == 1) = false := by simpa using h1
        have HS2 : Hid (cntT (l.take (k + 1)) = m) := Lib.hid (by rw [HS.out, if_neg h1]; omega)
        clear h1 hx
        go_wp2
        go_round
        case rel => exact ⟨k + 1, by omega, by go_num, by rw [HS2.out]⟩
        case measure => simp [intOf] <;> omega
    · obtain rfl : k = n := by omega
      rw [HLN.out, ← HTK.out]
      go_wp2_with fail
      refine HH.out.mono ?_
      rintro _ w1 ⟨A1, cap1, rfl, ho, hb1⟩
      have hbx := HO.out.over hb1
      have r0 := hbx.cell 0
      have r1 := hbx.cell 1
      have q0 := hbx.frozen 0
      have q1 := hbx.frozen 1
      have hz := (hbx.set_ 0 (.int .i64 (dOf c l).tick)).set_ 1 (.slice A1 hL.length cap1)
      have hbb : Below w.heap.size w ((w1.setCell ⟨w.heap.size, 0, none⟩ (.int .i64 (dOf c l).tick)).setCell ⟨w.heap.size, 1, none⟩ (.slice A1 hL.length cap1)) := ((hb0.trans (hb1.mono hs0)).setCell (by simp) _).setCell (by simp) _
      have hoo := (own_base (base' := w.heap.size) ho hs0)
      have hcc : Chg (fun k => k = w.heap.size) w1 ((w1.setCell ⟨w.heap.size, 0, none⟩ (.int .i64 (dOf c l).tick)).setCell ⟨w.heap.size, 1, none⟩ (.slice A1 hL.length cap1)) := ((Chg.refl (fun k => k = w.heap.size) w1).setCell (p := ⟨w.heap.size, 0, none⟩) (.inl rfl) _).setCell (p := ⟨w.heap.size, 1, none⟩) (.inl rfl) _
      have hoz := own_chg hoo hcc (fun g hg => by
        have h1 := (own_block_lt ho hg).2.1
        have h2 := HRB.out
        omega)
      obtain ⟨wz, hwz⟩ : ∃ wz, wz = ((w1.setCell ⟨w.heap.size, 0, none⟩ (.int .i64 (dOf c l).tick)).setCell ⟨w.heap.size, 1, none⟩ (.slice A1 hL.length cap1)) := ⟨_, rfl⟩
      rw [← hwz] at hz hbb hcc hoz
      have HWZ := Lib.hid hwz
      have HE : Hid (GivesB w (dOf c l).tick hL (.returned (.agg #[.int .i64 (dOf c l).tick, .slice A1 hL.length cap1])) wz) := ⟨A1, cap1, rfl, hoz, hbb⟩
      have z0' : wz.cell? ⟨w.heap.size, 0, none⟩ = some (.int .i64 (dOf c l).tick) := hz.cell 0
      have z1' : wz.cell? ⟨w.heap.size, 1, none⟩ = some (.slice A1 hL.length cap1) := hz.cell 1
      clear hz hoz hbb hcc hoo ho hbx hwz
      generalize hL.length = LL at *
      go_wp2
      rw [← HWZ.out]
      exact bodyPost_ret (v := .agg #[.int .i64 (dOf c l).tick, .slice A1 LL cap1]) (by simp [results, Try.results54, z0', z1', go_sem]) rfl HE.out
end Go.Proofs.Ytfjpmoigpnmeoaa
