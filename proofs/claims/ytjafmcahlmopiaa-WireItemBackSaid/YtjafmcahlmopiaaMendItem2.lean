/-
  MendItem.
-/
import Derived.Test.YtjafmcahlmopiaaMendItem
namespace Go.Proofs.Ytjafmcahlmopiaa
open Go.RowKit

def MendPost (w : World) (e : Ending) (w' : World) : Prop :=
  ∃ (k s q t : Int) (l : List UInt8) (p st a c : Int) (A : Option Addr) (cap : Nat), itemB k s q t l.length p st a c = true ∧
    e = .returned (.agg #[.int .i64 k, .int .i64 s, .int .i64 q, .int .i64 t, .slice A l.length cap, .int .i64 p, .int .i64 st, .int .i64 a, .int .i64 c]) ∧
    w'.ownsRow w.heap.size 5 1 (.slice A l.length cap) l.length (bvs l) ∧ Below w.heap.size w w'
theorem clamp_in (v lo hi : Int) (h : lo ≤ hi) : lo ≤ clamp v lo hi ∧ clamp v lo hi ≤ hi := by
  unfold clamp
  split
  · omega
  · split <;> omega
set_option maxRecDepth 100000 in
set_option maxHeartbeats 1600000 in
theorem MendItem_data (k s q t : Int) (A : Option Addr) (n cap : Nat) (bs : List UInt8) (p st a c : Int) (w : World) (hk : k ≠ 2) (hr : RdB w w.heap.size A n bs) (hn : n ≤ cap) (hc : n ≤ 140737488351232) :
    Calls Try.prog 35 #[.agg #[.int .i64 k, .int .i64 s, .int .i64 q, .int .i64 t, .slice A n cap, .int .i64 p, .int .i64 st, .int .i64 a, .int .i64 c]] w (MendPost w) := by
  have hb : (k == 2) = false := by simp [hk]
  go_enter Try.func35, Try.ntmps35
  have hb1 := Below.then (one_box w (.cells #[.int .i64 k, .int .i64 s, .int .i64 q, .int .i64 t, .slice A n cap, .int .i64 p, .int .i64 st, .int .i64 a, .int .i64 c] 52)) (one_box (w.alloc (.cells #[.int .i64 k, .int .i64 s, .int .i64 q, .int .i64 t, .slice A n cap, .int .i64 p, .int .i64 st, .int .i64 a, .int .i64 c] 52)) (.cells #[.int .i64 0, .int .i64 0, .int .i64 0, .int .i64 0, .slice none 0 0, .int .i64 0, .int .i64 0, .int .i64 0, .int .i64 0] 52))
  have hX := (Blk.new w 52 #[.int .i64 k, .int .i64 s, .int .i64 q, .int .i64 t, .slice A n cap, .int .i64 p, .int .i64 st, .int .i64 a, .int .i64 c]).alloc (.cells #[.int .i64 0, .int .i64 0, .int .i64 0, .int .i64 0, .slice none 0 0, .int .i64 0, .int .i64 0, .int .i64 0, .int .i64 0] 52)
  have hZ := Blk.new (w.alloc (.cells #[.int .i64 k, .int .i64 s, .int .i64 q, .int .i64 t, .slice A n cap, .int .i64 p, .int .i64 st, .int .i64 a, .int .i64 c] 52)) 52 #[.int .i64 0, .int .i64 0, .int .i64 0, .int .i64 0, .slice none 0 0, .int .i64 0, .int .i64 0, .int .i64 0, .int .i64 0]
  rw [show (w.alloc (.cells #[.int .i64 k, .int .i64 s, .int .i64 q, .int .i64 t, .slice A n cap, .int .i64 p, .int .i64 st, .int .i64 a, .int .i64 c] 52)).heap.size = w.heap.size + 1 by simp] at hZ
  obtain ⟨w1, hw1⟩ : ∃ w1, w1 = (w.alloc (.cells #[.int .i64 k, .int .i64 s, .int .i64 q, .int .i64 t, .slice A n cap, .int .i64 p, .int .i64 st, .int .i64 a, .int .i64 c] 52)).alloc (.cells #[.int .i64 0, .int .i64 0, .int .i64 0, .int .i64 0, .slice none 0 0, .int .i64 0, .int .i64 0, .int .i64 0, .int .i64 0] 52) := ⟨_, rfl⟩
  rw [← hw1] at hb1 hX hZ
  have HW1 := Lib.hid hw1
  clear hw1
  have x0 : w1.cell? ⟨w.heap.size, 0, none⟩ = some (.int .i64 k) := by rw [hX.cell]; rfl
  have x1 : w1.cell? ⟨w.heap.size, 1, none⟩ = some (.int .i64 s) := by rw [hX.cell]; rfl
  have x2 : w1.cell? ⟨w.heap.size, 2, none⟩ = some (.int .i64 q) := by rw [hX.cell]; rfl
  have x3 : w1.cell? ⟨w.heap.size, 3, none⟩ = some (.int .i64 t) := by rw [hX.cell]; rfl
  have x4 : w1.cell? ⟨w.heap.size, 4, none⟩ = some (.slice A n cap) := by rw [hX.cell]; rfl
  rw [HW1.out] at x0 x1 x2 x3 x4
  go_wp2_with fail
  rw [← HW1.out]
  clear x0 x1 x2 x3 x4
  refine (MendData_any s q t A n cap bs w1 ((hr.below hb1).more hb1.size) hn hc).mono ?_
  rintro _ w2 ⟨A2, c2, rfl, ho, hb2⟩
  obtain ⟨h10, h11⟩ := clamp_in s 0 15 (by omega)
  obtain ⟨h20, h21⟩ := clamp_in q 1 4611686018427387904 (by omega)
  obtain ⟨h30, h31⟩ := clamp_in t 0 4611686018427387904 (by omega)
  have hll : (bs.take 256).length ≤ 256 := by rw [List.length_take]; omega
  generalize (bs.take 256) = l at ho hll ⊢
  generalize clamp s 0 15 = x1 at h10 h11 ⊢
  generalize clamp q 1 4611686018427387904 = x2 at h20 h21 ⊢
  generalize clamp t 0 4611686018427387904 = x3 at h30 h31 ⊢
  have hZ2 := hZ.over hb2
  have hzl := hZ.lt
  have hb02 : Below w.heap.size w w2 := Below.then hb1 hb2
  have z0 : w2.cell? ⟨w.heap.size + 1, 0, none⟩ = some (.int .i64 0) := by rw [hZ2.cell]; rfl
  have z1 : w2.cell? ⟨w.heap.size + 1, 1, none⟩ = some (.int .i64 0) := by rw [hZ2.cell]; rfl
  have z2 : w2.cell? ⟨w.heap.size + 1, 2, none⟩ = some (.int .i64 0) := by rw [hZ2.cell]; rfl
  have z3 : w2.cell? ⟨w.heap.size + 1, 3, none⟩ = some (.int .i64 0) := by rw [hZ2.cell]; rfl
  have z4 : w2.cell? ⟨w.heap.size + 1, 4, none⟩ = some (.slice none 0 0) := by rw [hZ2.cell]; rfl
  have z5 : w2.cell? ⟨w.heap.size + 1, 5, none⟩ = some (.int .i64 0) := by rw [hZ2.cell]; rfl
  have z6 : w2.cell? ⟨w.heap.size + 1, 6, none⟩ = some (.int .i64 0) := by rw [hZ2.cell]; rfl
  have z7 : w2.cell? ⟨w.heap.size + 1, 7, none⟩ = some (.int .i64 0) := by rw [hZ2.cell]; rfl
  have z8 : w2.cell? ⟨w.heap.size + 1, 8, none⟩ = some (.int .i64 0) := by rw [hZ2.cell]; rfl
  have g0 := hZ2.frozen 0
  have g1 := hZ2.frozen 1
  have g2 := hZ2.frozen 2
  have g3 := hZ2.frozen 3
  have g4 := hZ2.frozen 4
  have g5 := hZ2.frozen 5
  have g6 := hZ2.frozen 6
  have g7 := hZ2.frozen 7
  have g8 := hZ2.frozen 8
  go_wp2
  have hch8 := ((((((((((Chg.refl (fun x => x = w.heap.size + 1) w2).setCell (p := ⟨w.heap.size + 1, 0, none⟩) (.inl rfl) (.int .i64 1)).setCell (p := ⟨w.heap.size + 1, 1, none⟩) (.inl rfl) (.int .i64 x1)).setCell (p := ⟨w.heap.size + 1, 2, none⟩) (.inl rfl) (.int .i64 x2)).setCell (p := ⟨w.heap.size + 1, 3, none⟩) (.inl rfl) (.int .i64 x3)).setCell (p := ⟨w.heap.size + 1, 4, none⟩) (.inl rfl) (.slice A2 l.length c2)).setCell (p := ⟨w.heap.size + 1, 5, none⟩) (.inl rfl) (.int .i64 0)).setCell (p := ⟨w.heap.size + 1, 6, none⟩) (.inl rfl) (.int .i64 0)).setCell (p := ⟨w.heap.size + 1, 7, none⟩) (.inl rfl) (.int .i64 0)).setCell (p := ⟨w.heap.size + 1, 8, none⟩) (.inl rfl) (.int .i64 0))
  have hR8 := (((((((((hZ2.set_ 0 (.int .i64 1)).set_ 1 (.int .i64 x1)).set_ 2 (.int .i64 x2)).set_ 3 (.int .i64 x3)).set_ 4 (.slice A2 l.length c2)).set_ 5 (.int .i64 0)).set_ 6 (.int .i64 0)).set_ 7 (.int .i64 0)).set_ 8 (.int .i64 0))
  simp only [List.setIfInBounds_toArray, List.set_cons_zero, List.set_cons_succ] at hR8
  generalize World.setCell _ _ _ = w8 at hch8 hR8 ⊢
  try clear z0 z1 z2 z3 z4 z5 z6 z7 z8
  have r0 : w8.cell? ⟨w.heap.size + 1, 0, none⟩ = some (.int .i64 1) := by rw [hR8.cell]; rfl
  have r1 : w8.cell? ⟨w.heap.size + 1, 1, none⟩ = some (.int .i64 x1) := by rw [hR8.cell]; rfl
  have r2 : w8.cell? ⟨w.heap.size + 1, 2, none⟩ = some (.int .i64 x2) := by rw [hR8.cell]; rfl
  have r3 : w8.cell? ⟨w.heap.size + 1, 3, none⟩ = some (.int .i64 x3) := by rw [hR8.cell]; rfl
  have r4 : w8.cell? ⟨w.heap.size + 1, 4, none⟩ = some (.slice A2 l.length c2) := by rw [hR8.cell]; rfl
  have r5 : w8.cell? ⟨w.heap.size + 1, 5, none⟩ = some (.int .i64 0) := by rw [hR8.cell]; rfl
  have r6 : w8.cell? ⟨w.heap.size + 1, 6, none⟩ = some (.int .i64 0) := by rw [hR8.cell]; rfl
  have r7 : w8.cell? ⟨w.heap.size + 1, 7, none⟩ = some (.int .i64 0) := by rw [hR8.cell]; rfl
  have r8 : w8.cell? ⟨w.heap.size + 1, 8, none⟩ = some (.int .i64 0) := by rw [hR8.cell]; rfl
  try simp only [Exit.inBlock, Exit.then]
  refine bodyPost_ret (v := .agg #[.int .i64 1, .int .i64 x1, .int .i64 x2, .int .i64 x3, .slice A2 l.length c2, .int .i64 0, .int .i64 0, .int .i64 0, .int .i64 0]) (by
    simp only [results]
    rw [show Try.f35.results = #[.cell 2 52] from rfl]
    simp [r0, r1, r2, r3, r4, r5, r6, r7, r8, go_sem]) rfl ?_
  have hz1 : w.heap.size ≤ w1.heap.size := hb1.size
  refine ⟨1, x1, x2, x3, l, 0, 0, 0, 0, A2, c2, by simp [itemB, datB, slotB, cntB]; omega, rfl, own_base (own_chg ho hch8 (fun g hg hgp => by have := own_block_lt ho hg; omega)) hz1, hb02.trans (hch8.to_below hb02.size (fun k hk => by omega))⟩
set_option maxRecDepth 100000 in
set_option maxHeartbeats 1600000 in
theorem MendItem_slot (s q t : Int) (A : Option Addr) (n cap : Nat) (p st a c : Int) (w : World) :
    Calls Try.prog 35 #[.agg #[.int .i64 2, .int .i64 s, .int .i64 q, .int .i64 t, .slice A n cap, .int .i64 p, .int .i64 st, .int .i64 a, .int .i64 c]] w (MendPost w) := by
  go_enter Try.func35, Try.ntmps35
  have hb1 := Below.then (one_box w (.cells #[.int .i64 2, .int .i64 s, .int .i64 q, .int .i64 t, .slice A n cap, .int .i64 p, .int .i64 st, .int .i64 a, .int .i64 c] 52)) (one_box (w.alloc (.cells #[.int .i64 2, .int .i64 s, .int .i64 q, .int .i64 t, .slice A n cap, .int .i64 p, .int .i64 st, .int .i64 a, .int .i64 c] 52)) (.cells #[.int .i64 0, .int .i64 0, .int .i64 0, .int .i64 0, .slice none 0 0, .int .i64 0, .int .i64 0, .int .i64 0, .int .i64 0] 52))
  have hX := (Blk.new w 52 #[.int .i64 2, .int .i64 s, .int .i64 q, .int .i64 t, .slice A n cap, .int .i64 p, .int .i64 st, .int .i64 a, .int .i64 c]).alloc (.cells #[.int .i64 0, .int .i64 0, .int .i64 0, .int .i64 0, .slice none 0 0, .int .i64 0, .int .i64 0, .int .i64 0, .int .i64 0] 52)
  have hZ := Blk.new (w.alloc (.cells #[.int .i64 2, .int .i64 s, .int .i64 q, .int .i64 t, .slice A n cap, .int .i64 p, .int .i64 st, .int .i64 a, .int .i64 c] 52)) 52 #[.int .i64 0, .int .i64 0, .int .i64 0, .int .i64 0, .slice none 0 0, .int .i64 0, .int .i64 0, .int .i64 0, .int .i64 0]
  rw [show (w.alloc (.cells #[.int .i64 2, .int .i64 s, .int .i64 q, .int .i64 t, .slice A n cap, .int .i64 p, .int .i64 st, .int .i64 a, .int .i64 c] 52)).heap.size = w.heap.size + 1 by simp] at hZ
  obtain ⟨w1, hw1⟩ : ∃ w1, w1 = (w.alloc (.cells #[.int .i64 2, .int .i64 s, .int .i64 q, .int .i64 t, .slice A n cap, .int .i64 p, .int .i64 st, .int .i64 a, .int .i64 c] 52)).alloc (.cells #[.int .i64 0, .int .i64 0, .int .i64 0, .int .i64 0, .slice none 0 0, .int .i64 0, .int .i64 0, .int .i64 0, .int .i64 0] 52) := ⟨_, rfl⟩
  rw [← hw1] at hb1 hX hZ
  have HW1 := Lib.hid hw1
  clear hw1
  have x0 : w1.cell? ⟨w.heap.size, 0, none⟩ = some (.int .i64 2) := by rw [hX.cell]; rfl
  have x5 : w1.cell? ⟨w.heap.size, 5, none⟩ = some (.int .i64 p) := by rw [hX.cell]; rfl
  have x6 : w1.cell? ⟨w.heap.size, 6, none⟩ = some (.int .i64 st) := by rw [hX.cell]; rfl
  have x7 : w1.cell? ⟨w.heap.size, 7, none⟩ = some (.int .i64 a) := by rw [hX.cell]; rfl
  have x8 : w1.cell? ⟨w.heap.size, 8, none⟩ = some (.int .i64 c) := by rw [hX.cell]; rfl
  rw [HW1.out] at x0 x5 x6 x7 x8
  go_wp2_with fail
  refine (into_c p 1 4611686018427387904 _).mono ?_
  rintro _ w2 ⟨rfl, hw2⟩
  rw [hw2, ← HW1.out]
  rw [← HW1.out] at x0 x5 x6 x7 x8
  clear hw2 w2
  go_wp2_with fail
  have hlt1 : w.heap.size < w1.heap.size := hX.lt
  go_region_held3 (fun w' => w'.cell? ⟨w.heap.size, 7, none⟩ = some (.int .i64 a) ∧ w'.cell? ⟨w.heap.size, 8, none⟩ = some (.int .i64 c)) (go_keep) ((first | (go_at_call 24; refine (into_any _ _ _ _).mono ?_; rintro _ w' ⟨rfl, rfl⟩)))
  all_goals go_wp2_with fail
  all_goals
    have hS := Blk.new w1 50 #[.int .i64 (clamp a 0 15), .int .i64 (clamp c 1 4611686018427387904)]
    have hX3 := (hX.alloc (.cells #[.int .i64 (clamp a 0 15), .int .i64 (clamp c 1 4611686018427387904)] 50)).drew
    have hZ3 := (hZ.alloc (.cells #[.int .i64 (clamp a 0 15), .int .i64 (clamp c 1 4611686018427387904)] 50)).drew
    have hS3 := hS.drew
    have hb3 : Below w.heap.size w _ := Below.then hb1 (below_drewN (one_box w1 (.cells #[.int .i64 (clamp a 0 15), .int .i64 (clamp c 1 4611686018427387904)] 50)) 1)
    obtain ⟨w3, hw3⟩ : ∃ w3, w3 = (w1.alloc (.cells #[.int .i64 (clamp a 0 15), .int .i64 (clamp c 1 4611686018427387904)] 50)).drew := ⟨_, rfl⟩
    change Blk (w1.alloc (.cells #[.int .i64 (clamp a 0 15), .int .i64 (clamp c 1 4611686018427387904)] 50)).drew _ _ _ at hX3 hZ3 hS3
    change Below w.heap.size w (w1.alloc (.cells #[.int .i64 (clamp a 0 15), .int .i64 (clamp c 1 4611686018427387904)] 50)).drew at hb3
    rw [← hw3] at hX3 hZ3 hS3 hb3 ⊢
    clear hw3 hS
    have y6 : w3.cell? ⟨w.heap.size, 6, none⟩ = some (.int .i64 st) := by rw [hX3.cell]; rfl
    have y0 : w3.cell? ⟨w1.heap.size, 0, none⟩ = some (.int .i64 (clamp a 0 15)) := by rw [hS3.cell]; rfl
    have y1 : w3.cell? ⟨w1.heap.size, 1, none⟩ = some (.int .i64 (clamp c 1 4611686018427387904)) := by rw [hS3.cell]; rfl
    obtain ⟨hp0, hp1⟩ := clamp_in p 1 4611686018427387904 (by omega)
    have ep : IntKind.i64.wrap (clamp p 1 4611686018427387904 - 1) = clamp p 1 4611686018427387904 - 1 := IntWalk.i64_in _ (by omega)
    refine wp_region_still_tail 7 (by kernel_rfl) (by kernel_rfl) ?_
    simp only [List.take_succ_cons, List.take_zero, List.drop_succ_cons, List.drop_zero]
    repeat still_step
    still_call (into_c _ _ _ _)
    repeat still_step
    refine wpStill_nil ?_
    change wpList _ _ _ _ _ w3.drew
    clear ep
    obtain ⟨hs0, hs1⟩ := clamp_in st 0 (clamp p 1 4611686018427387904 - 1) (by omega)
    obtain ⟨ha0, ha1⟩ := clamp_in a 0 15 (by omega)
    obtain ⟨hc0, hc1⟩ := clamp_in c 1 4611686018427387904 (by omega)
    generalize clamp st 0 (clamp p 1 4611686018427387904 - 1) = v2 at hs0 hs1 ⊢
    generalize clamp p 1 4611686018427387904 = v1 at hp0 hp1 hs1 ⊢
    generalize clamp a 0 15 = v3 at ha0 ha1 ⊢
    generalize clamp c 1 4611686018427387904 = v4 at hc0 hc1 ⊢
    have hZ4 := hZ3.drew
    have hb4 : Below w.heap.size w w3.drew := below_drewN hb3 1
    generalize w3.drew = w4 at hZ4 hb4 ⊢
    have z0 : w4.cell? ⟨w.heap.size + 1, 0, none⟩ = some (.int .i64 0) := by rw [hZ4.cell]; rfl
    have g0 := hZ4.frozen 0
    have z1 : w4.cell? ⟨w.heap.size + 1, 1, none⟩ = some (.int .i64 0) := by rw [hZ4.cell]; rfl
    have g1 := hZ4.frozen 1
    have z2 : w4.cell? ⟨w.heap.size + 1, 2, none⟩ = some (.int .i64 0) := by rw [hZ4.cell]; rfl
    have g2 := hZ4.frozen 2
    have z3 : w4.cell? ⟨w.heap.size + 1, 3, none⟩ = some (.int .i64 0) := by rw [hZ4.cell]; rfl
    have g3 := hZ4.frozen 3
    have z4 : w4.cell? ⟨w.heap.size + 1, 4, none⟩ = some (.slice none 0 0) := by rw [hZ4.cell]; rfl
    have g4 := hZ4.frozen 4
    have z5 : w4.cell? ⟨w.heap.size + 1, 5, none⟩ = some (.int .i64 0) := by rw [hZ4.cell]; rfl
    have g5 := hZ4.frozen 5
    have z6 : w4.cell? ⟨w.heap.size + 1, 6, none⟩ = some (.int .i64 0) := by rw [hZ4.cell]; rfl
    have g6 := hZ4.frozen 6
    have z7 : w4.cell? ⟨w.heap.size + 1, 7, none⟩ = some (.int .i64 0) := by rw [hZ4.cell]; rfl
    have g7 := hZ4.frozen 7
    have z8 : w4.cell? ⟨w.heap.size + 1, 8, none⟩ = some (.int .i64 0) := by rw [hZ4.cell]; rfl
    have g8 := hZ4.frozen 8
    go_wp2
    have hch8 := ((((((((((Chg.refl (fun x => x = w.heap.size + 1) w4).setCell (p := ⟨w.heap.size + 1, 0, none⟩) (.inl rfl) (.int .i64 2)).setCell (p := ⟨w.heap.size + 1, 1, none⟩) (.inl rfl) (.int .i64 0)).setCell (p := ⟨w.heap.size + 1, 2, none⟩) (.inl rfl) (.int .i64 0)).setCell (p := ⟨w.heap.size + 1, 3, none⟩) (.inl rfl) (.int .i64 0)).setCell (p := ⟨w.heap.size + 1, 4, none⟩) (.inl rfl) (.slice none 0 0)).setCell (p := ⟨w.heap.size + 1, 5, none⟩) (.inl rfl) (.int .i64 v1)).setCell (p := ⟨w.heap.size + 1, 6, none⟩) (.inl rfl) (.int .i64 v2)).setCell (p := ⟨w.heap.size + 1, 7, none⟩) (.inl rfl) (.int .i64 v3)).setCell (p := ⟨w.heap.size + 1, 8, none⟩) (.inl rfl) (.int .i64 v4))
    have hR8 := (((((((((hZ4.set_ 0 (.int .i64 2)).set_ 1 (.int .i64 0)).set_ 2 (.int .i64 0)).set_ 3 (.int .i64 0)).set_ 4 (.slice none 0 0)).set_ 5 (.int .i64 v1)).set_ 6 (.int .i64 v2)).set_ 7 (.int .i64 v3)).set_ 8 (.int .i64 v4))
    simp only [List.setIfInBounds_toArray, List.set_cons_zero, List.set_cons_succ] at hR8
    generalize World.setCell _ _ _ = w8 at hch8 hR8 ⊢
    try clear z0 z1 z2 z3 z4 z5 z6 z7 z8
    have r0 : w8.cell? ⟨w.heap.size + 1, 0, none⟩ = some (.int .i64 2) := by rw [hR8.cell]; rfl
    have r1 : w8.cell? ⟨w.heap.size + 1, 1, none⟩ = some (.int .i64 0) := by rw [hR8.cell]; rfl
    have r2 : w8.cell? ⟨w.heap.size + 1, 2, none⟩ = some (.int .i64 0) := by rw [hR8.cell]; rfl
    have r3 : w8.cell? ⟨w.heap.size + 1, 3, none⟩ = some (.int .i64 0) := by rw [hR8.cell]; rfl
    have r4 : w8.cell? ⟨w.heap.size + 1, 4, none⟩ = some (.slice none 0 0) := by rw [hR8.cell]; rfl
    have r5 : w8.cell? ⟨w.heap.size + 1, 5, none⟩ = some (.int .i64 v1) := by rw [hR8.cell]; rfl
    have r6 : w8.cell? ⟨w.heap.size + 1, 6, none⟩ = some (.int .i64 v2) := by rw [hR8.cell]; rfl
    have r7 : w8.cell? ⟨w.heap.size + 1, 7, none⟩ = some (.int .i64 v3) := by rw [hR8.cell]; rfl
    have r8 : w8.cell? ⟨w.heap.size + 1, 8, none⟩ = some (.int .i64 v4) := by rw [hR8.cell]; rfl
    try simp only [Exit.inBlock, Exit.then]
    refine bodyPost_ret (v := .agg #[.int .i64 2, .int .i64 0, .int .i64 0, .int .i64 0, .slice none 0 0, .int .i64 v1, .int .i64 v2, .int .i64 v3, .int .i64 v4]) (by
        simp only [results]
        rw [show Try.f35.results = #[.cell 2 52] from rfl]
        simp [r0, r1, r2, r3, r4, r5, r6, r7, r8, go_sem]) rfl ?_
    refine ⟨2, 0, 0, 0, [], v1, v2, v3, v4, none, 0, by simp [itemB, zdatB, slotB, cntB]; omega, rfl, ⟨rfl, .inl ⟨rfl, rfl⟩⟩, hb4.trans (hch8.to_below hb4.size (fun k hk => by omega))⟩
end Go.Proofs.Ytjafmcahlmopiaa
