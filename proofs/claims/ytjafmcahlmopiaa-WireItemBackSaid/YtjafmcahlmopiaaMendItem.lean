/-
  MendItem: a valid item next to it.
-/
import Derived.Test.YtjafmcahlmopiaaBackFwd
import Derived.StillTailTactics
namespace Go.Proofs.Ytjafmcahlmopiaa
open Go.RowKit

theorem into_c (v lo hi : Int) (w : World) : Calls Try.prog 24 #[.int .i64 v, .int .i64 lo, .int .i64 hi] w fun e w' => e = .returned (.int .i64 (clamp v lo hi)) ∧ w' = w :=
  (into_any v lo hi w).mono fun _ _ ⟨h1, h2⟩ => ⟨h1, h2.symm⟩
theorem cut_any (A : Option Addr) (n cap lim : Nat) (bs : List UInt8) (w : World) (hr : RdB w w.heap.size A n bs) (hn : n ≤ cap) (hc : n ≤ 140737488351232) (hcl : lim ≤ 256) :
    Calls Try.prog 98 #[.slice A n cap, .int .i64 (lim : Int)] w fun e w' => ∃ A' c', e = .returned (.slice A' (bs.take lim).length c') ∧ w'.ownsRow w.heap.size 5 1 (.slice A' (bs.take lim).length c') (bs.take lim).length (bvs (bs.take lim)) ∧ Below w.heap.size w w' := by
  have hl := hr.lenB
  by_cases h : lim < n
  · have hI : (lim : Int) < (n : Int) := by omega
    have hI2 : (lim : Int) ≤ (cap : Int) := by omega
    have hlt : (bs.take lim).length = lim := by rw [List.length_take]; omega
    have HR := Lib.hid (hr.takeB (k := lim) (by omega))
    clear hl
    go_enter Try.func98, Try.ntmps98
    go_wp2_with fail
    refine (Copied_any A lim cap (bs.take lim) w HR.out (by omega)).mono ?_
    rintro _ w1 ⟨v, rfl, ho, hb⟩
    obtain ⟨A1, c1, rfl, _, _⟩ := own_shape ho
    go_wp2
    go_ret
    exact ⟨A1, c1, by rw [hlt]; rfl, by rw [hlt]; exact ho, hb⟩
  · have hI : (n : Int) ≤ (lim : Int) := by omega
    have ht : bs.take lim = bs := List.take_of_length_le (by omega)
    rw [ht]
    go_enter Try.func98, Try.ntmps98
    go_wp2_with fail
    refine (Copied_any A n cap bs w hr (by omega)).mono ?_
    rintro _ w1 ⟨v, rfl, ho, hb⟩
    obtain ⟨A1, c1, rfl, _, _⟩ := own_shape ho
    go_wp2
    go_ret
    exact ⟨A1, c1, by rw [hl]; rfl, by rw [hl]; exact ho, hb⟩
set_option maxRecDepth 100000 in
set_option maxHeartbeats 1600000 in
theorem MendData_any (s q t : Int) (A : Option Addr) (n cap : Nat) (bs : List UInt8) (w : World) (hr : RdB w w.heap.size A n bs) (hn : n ≤ cap) (hc : n ≤ 140737488351232) :
    Calls Try.prog 70 #[.agg #[.int .i64 s, .int .i64 q, .int .i64 t, .slice A n cap]] w fun e w' => ∃ A' c', e = .returned (.agg #[.int .i64 (clamp s 0 15), .int .i64 (clamp q 1 4611686018427387904), .int .i64 (clamp t 0 4611686018427387904), .slice A' (bs.take 256).length c']) ∧
      w'.ownsRow w.heap.size 5 1 (.slice A' (bs.take 256).length c') (bs.take 256).length (bvs (bs.take 256)) ∧ Below w.heap.size w w' := by
  generalize hL : bs.take 256 = l
  generalize h1 : clamp s 0 15 = x1
  generalize h2 : clamp q 1 4611686018427387904 = x2
  generalize h3 : clamp t 0 4611686018427387904 = x3
  have HL := Lib.hid hL
  have H1 := Lib.hid h1
  have H2 := Lib.hid h2
  have H3 := Lib.hid h3
  clear hL h1 h2 h3
  go_enter Try.func70, Try.ntmps70
  go_wp2_with fail
  have hb1 := Below.then (one_box w (.cells #[.int .i64 s, .int .i64 q, .int .i64 t, .slice A n cap] 48)) (one_box (w.alloc (.cells #[.int .i64 s, .int .i64 q, .int .i64 t, .slice A n cap] 48)) (.cells #[.int .i64 0, .int .i64 0, .int .i64 0, .slice none 0 0] 48))
  have hX := (Blk.new w 48 #[.int .i64 s, .int .i64 q, .int .i64 t, .slice A n cap]).alloc (.cells #[.int .i64 0, .int .i64 0, .int .i64 0, .slice none 0 0] 48)
  have hZ := Blk.new (w.alloc (.cells #[.int .i64 s, .int .i64 q, .int .i64 t, .slice A n cap] 48)) 48 #[.int .i64 0, .int .i64 0, .int .i64 0, .slice none 0 0]
  rw [show (w.alloc (.cells #[.int .i64 s, .int .i64 q, .int .i64 t, .slice A n cap] 48)).heap.size = w.heap.size + 1 by simp] at hZ
  generalize (w.alloc (.cells #[.int .i64 s, .int .i64 q, .int .i64 t, .slice A n cap] 48)).alloc (.cells #[.int .i64 0, .int .i64 0, .int .i64 0, .slice none 0 0] 48) = w1 at hb1 hX hZ ⊢
  have x0 : w1.cell? ⟨w.heap.size, 0, none⟩ = some (.int .i64 s) := by rw [hX.cell]; rfl
  have x1 : w1.cell? ⟨w.heap.size, 1, none⟩ = some (.int .i64 q) := by rw [hX.cell]; rfl
  have x2 : w1.cell? ⟨w.heap.size, 2, none⟩ = some (.int .i64 t) := by rw [hX.cell]; rfl
  have x3 : w1.cell? ⟨w.heap.size, 3, none⟩ = some (.slice A n cap) := by rw [hX.cell]; rfl
  refine wp_region_still_tail 11 (by kernel_rfl) (by kernel_rfl) ?_
  simp only [List.take_succ_cons, List.take_zero, List.drop_succ_cons, List.drop_zero]
  repeat still_step
  still_call (into_c _ _ _ _)
  repeat still_step
  still_call (into_c _ _ _ _)
  repeat still_step
  still_call (into_c _ _ _ _)
  repeat still_step
  refine wpStill_nil ?_
  change wpList _ _ _ _ _ w1.drew
  clear x0 x1 x2 x3
  have hr1 : RdB w1.drew w1.drew.heap.size A n bs := ((hr.below hb1).more hb1.size).dn 1
  go_wp2_with fail
  refine (cut_any A n cap 256 bs w1.drew hr1 hn hc (by omega)).mono ?_
  rintro _ w2 ⟨A2, c2, rfl, ho, hb2⟩
  have hb12 : Below w1.heap.size w1 w2 := ⟨hb2.os, hb2.tape, hb2.output, hb2.size, hb2.block⟩
  have hZ2 := hZ.over hb12
  have hzl := hZ.lt
  have hb02 : Below w.heap.size w w2 := Below.then hb1 hb12
  rw [HL.out] at ho ⊢
  rw [H1.out, H2.out, H3.out]
  have z0 : w2.cell? ⟨w.heap.size + 1, 0, none⟩ = some (.int .i64 0) := by rw [hZ2.cell]; rfl
  have z1 : w2.cell? ⟨w.heap.size + 1, 1, none⟩ = some (.int .i64 0) := by rw [hZ2.cell]; rfl
  have z2 : w2.cell? ⟨w.heap.size + 1, 2, none⟩ = some (.int .i64 0) := by rw [hZ2.cell]; rfl
  have z3 : w2.cell? ⟨w.heap.size + 1, 3, none⟩ = some (.slice none 0 0) := by rw [hZ2.cell]; rfl
  have g0 := hZ2.frozen 0
  have g1 := hZ2.frozen 1
  have g2 := hZ2.frozen 2
  have g3 := hZ2.frozen 3
  go_wp2
  have hch8 := (((Chg.refl (fun x => x = w.heap.size + 1) w2).setCell (p := ⟨w.heap.size + 1, 0, none⟩) (.inl rfl) (.int .i64 x1)).setCell (p := ⟨w.heap.size + 1, 1, none⟩) (.inl rfl) (.int .i64 x2)).setCell (p := ⟨w.heap.size + 1, 2, none⟩) (.inl rfl) (.int .i64 x3) |>.setCell (p := ⟨w.heap.size + 1, 3, none⟩) (.inl rfl) (.slice A2 l.length c2)
  have hR8 := (((hZ2.set_ 0 (.int .i64 x1)).set_ 1 (.int .i64 x2)).set_ 2 (.int .i64 x3)).set_ 3 (.slice A2 l.length c2)
  generalize World.setCell _ _ _ = w8 at hch8 hR8 ⊢
  clear z0 z1 z2 z3
  have r0 : w8.cell? ⟨w.heap.size + 1, 0, none⟩ = some (.int .i64 x1) := by rw [hR8.cell]; rfl
  have r1 : w8.cell? ⟨w.heap.size + 1, 1, none⟩ = some (.int .i64 x2) := by rw [hR8.cell]; rfl
  have r2 : w8.cell? ⟨w.heap.size + 1, 2, none⟩ = some (.int .i64 x3) := by rw [hR8.cell]; rfl
  have r3 : w8.cell? ⟨w.heap.size + 1, 3, none⟩ = some (.slice A2 l.length c2) := by rw [hR8.cell]; rfl
  try simp only [Exit.inBlock, Exit.then]
  refine bodyPost_ret (v := .agg #[.int .i64 x1, .int .i64 x2, .int .i64 x3, .slice A2 l.length c2]) (by
    simp only [results]
    rw [show Try.f70.results = #[.cell 2 48] from rfl]
    simp [r0, r1, r2, r3, go_sem]) rfl ?_
  have hz1 : w.heap.size ≤ w1.heap.size := hb1.size
  refine ⟨A2, c2, rfl, own_base (own_chg ho hch8 (fun g hg hgp => by have := own_block_lt ho hg; have h' : w1.drew.heap.size = w1.heap.size := rfl; omega)) hz1, hb02.trans (hch8.to_below hb02.size (fun k hk => by omega))⟩
end Go.Proofs.Ytjafmcahlmopiaa
