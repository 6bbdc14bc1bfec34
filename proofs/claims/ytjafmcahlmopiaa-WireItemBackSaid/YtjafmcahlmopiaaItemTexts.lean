/-
  WireItemTexts, walked.
-/
import Derived.Test.YtjafmcahlmopiaaDecR
namespace Go.Proofs.Ytjafmcahlmopiaa
open Go.RowKit

set_option maxRecDepth 100000 in
set_option maxHeartbeats 6400000 in
theorem WireItemTexts_walk (A : Option Addr) (n cap : Nat) (bs : List UInt8) (w : World) (hcap : n ≤ cap) (hn0 : cap ≤ 140737488351232) (hr : RdB w w.heap.size A n bs) :
    Calls Try.prog 8 #[.slice A n cap] w fun e w' => e = .returned (.bool true) ∧ Below w.heap.size w w' := by
  have hn : n ≤ 140737488351232 := by omega
  obtain ⟨⟨k, s, q, t, ls, p, st, a, c⟩, er, hE⟩ : ∃ d er, decItem bs = (d, er) := ⟨_, _, rfl⟩
  have hle := decItem_bd bs
  rw [hE] at hle
  simp only at hle
  obtain ⟨hl1, hl2, hl3⟩ := hle
  obtain ⟨⟨k', s', q', t', ls', p', st', a', c'⟩, er', hE'⟩ : ∃ d er, decItem (turned bs) = (d, er) := ⟨_, _, rfl⟩
  have hle := decItem_bd (turned bs)
  rw [hE'] at hle
  simp only at hle
  obtain ⟨hm1, hm2, hm3⟩ := hle
  have HE := Lib.hid hE
  have HE' := Lib.hid hE'
  clear hE hE'
  have hl := hr.lenB
  have HL := Lib.hid hl
  clear hl
  go_enter Try.func8, Try.ntmps8
  go_wp2_with fail
  refine (L_any _ _ _ _ _ hr hn).mono ?_
  rintro _ w1 ⟨g, cap1, cur, rest, rfl, hg, h1, h2, hB, hc, hb1⟩
  have HC := Lib.hid hc
  clear hc
  have hgl : g < w1.heap.size := hB.lt
  have hb3 := hb1
  have hr3 : RdB w1 w1.heap.size A n bs := (hr.below hb1).more hb1.size
  have hm : cap1 ≤ 9223372036854775807 := by simp only [maxLen] at h2; omega
  have hlm : (bs ++ marks).length = n + 64 := by rw [List.length_append, HL.out, show marks.length = 64 from pats_length _ _]
  have hrd := rd_blk hB HC.out hlm
  have hrg := rd_blk (bs := bs) (rest := bvs marks ++ rest) hB (by rw [HC.out, bvs_append, List.append_assoc]) HL.out
  have h2' : n ≤ cap1 := by omega
  clear hlm hb1
  go_wp2_with fail
  -- want
  refine (RDecodeItem_r A n cap bs w1 hr3 hcap hn _ _ HE.out).mono ?_
  rintro _ w2 ⟨Aw, capw, rfl, how, hb2⟩
  simp only at how
  have HNW0 : Hid (∀ x, (Value.slice Aw ls.length capw).ownBlock = some x → w1.heap.size ≤ x ∧ x < w2.heap.size) := fun x hx => ⟨(own_block_lt how hx).2.1, (own_block_lt how hx).1⟩
  have hs2 := hb2.size
  replace hB := hB.over hb2
  replace hrd := hrd.over hb2
  replace hrg := hrg.over hb2
  replace hr3 := hr3.over hb2
  replace hb3 := Below.then hb3 hb2
  go_wp2_with fail
  obtain ⟨w3, hw3⟩ : ∃ w3, w3 = w2.alloc (.cells #[.int .i64 k, .int .i64 s, .int .i64 q, .int .i64 t, .slice Aw ls.length capw, .int .i64 p, .int .i64 st, .int .i64 a, .int .i64 c] 52) := ⟨_, rfl⟩
  rw [← hw3]
  have hX : Blk w3 w2.heap.size 52 #[.int .i64 k, .int .i64 s, .int .i64 q, .int .i64 t, .slice Aw ls.length capw, .int .i64 p, .int .i64 st, .int .i64 a, .int .i64 c] := by rw [hw3]; exact Blk.new _ _ _
  have hbq : Below w2.heap.size w2 w3 := by rw [hw3]; exact one_box _ _
  have hsw3 : w2.heap.size < w3.heap.size := hX.lt
  clear hw3
  replace hB := hB.over hbq
  replace hrd := hrd.over hbq
  replace hrg := hrg.over hbq
  replace hr3 := hr3.over hbq
  replace hb3 := Below.then hb3 hbq
  replace how := own_over how hbq
  clear hbq
  -- it
  refine (DecodeItem_r (some ⟨g, 0, none⟩) n cap1 bs w3 hrg h2' hn _ _ HE.out).mono ?_
  rintro _ w4 ⟨Ai, capi, rfl, hoi, hb4⟩
  simp only at hoi
  have HBI : Hid (∀ x, (Value.slice Ai ls.length capi).ownBlock = some x → w3.heap.size ≤ x ∧ x < w4.heap.size) := fun x hx => ⟨(own_block_lt hoi hx).2.1, (own_block_lt hoi hx).1⟩
  have hs4 := hb4.size
  replace hX := hX.over hb4
  replace hB := hB.over hb4
  replace hrd := hrd.over hb4
  replace hrg := hrg.over hb4
  replace hr3 := hr3.over hb4
  replace hb3 := Below.then hb3 hb4
  replace how := own_over how hb4
  go_wp2_with fail
  obtain ⟨w5, hw5⟩ : ∃ w5, w5 = w4.alloc (.cells #[.int .i64 k, .int .i64 s, .int .i64 q, .int .i64 t, .slice Ai ls.length capi, .int .i64 p, .int .i64 st, .int .i64 a, .int .i64 c] 52) := ⟨_, rfl⟩
  rw [← hw5]
  have hY : Blk w5 w4.heap.size 52 #[.int .i64 k, .int .i64 s, .int .i64 q, .int .i64 t, .slice Ai ls.length capi, .int .i64 p, .int .i64 st, .int .i64 a, .int .i64 c] := by rw [hw5]; exact Blk.new _ _ _
  have hbq : Below w4.heap.size w4 w5 := by rw [hw5]; exact one_box _ _
  have hsw5 : w4.heap.size < w5.heap.size := hY.lt
  clear hw5
  replace hX := hX.over hbq
  replace hB := hB.over hbq
  replace hrd := hrd.over hbq
  replace hrg := hrg.over hbq
  replace hr3 := hr3.over hbq
  replace hb3 := Below.then hb3 hbq
  replace how := own_over how hbq
  replace hoi := own_over hoi hbq
  clear hbq
  -- o
  refine (itemText_any w5).mono ?_
  rintro _ w6 ⟨Ax, capx, rfl, hox, hb6⟩
  have hs6 := hb6.size
  replace hX := hX.over hb6
  replace hY := hY.over hb6
  replace hB := hB.over hb6
  replace hrd := hrd.over hb6
  replace hrg := hrg.over hb6
  replace hr3 := hr3.over hb6
  replace hb3 := Below.then hb3 hb6
  replace how := own_over how hb6
  replace hoi := own_over hoi hb6
  generalize hTX : itemTxt = tx at hox
  have hcx : tx.length ≤ capx := by obtain ⟨_, _, h, h', _⟩ := own_shape hox; simp only [Value.slice.injEq] at h; omega
  have htl : tx.length ≤ 300 := by rw [← hTX]; first | done | decide
  have HTX := Lib.hid hTX
  clear hTX
  go_wp2_with fail
  refine (DecodeItem_r Ax tx.length capx tx w6 (Rd.of_own hox) hcx (by omega) ⟨1, 1, 1, 0, [4, 5, 6], 0, 0, 0, 0⟩ 0 (by rw [← HTX.out]; exact itemTxt_dec)).mono ?_
  rintro _ w7 ⟨Ao, capo, rfl, hoo, hb7⟩
  simp only [List.length_cons, List.length_nil, Nat.zero_add, Nat.reduceAdd] at hoo ⊢
  have HBO : Hid (∀ x, (Value.slice Ao 3 capo).ownBlock = some x → w6.heap.size ≤ x ∧ x < w7.heap.size) := fun x hx => ⟨(own_block_lt hoo hx).2.1, (own_block_lt hoo hx).1⟩
  have hs7 := hb7.size
  replace hX := hX.over hb7
  replace hY := hY.over hb7
  replace hB := hB.over hb7
  replace hrd := hrd.over hb7
  replace hrg := hrg.over hb7
  replace hr3 := hr3.over hb7
  replace hb3 := Below.then hb3 hb7
  replace how := own_over how hb7
  replace hoi := own_over hoi hb7
  clear hox hcx htl HTX
  go_wp2_with fail
  obtain ⟨w8, hw8⟩ : ∃ w8, w8 = w7.alloc (.cells #[.int .i64 1, .int .i64 1, .int .i64 1, .int .i64 0, .slice Ao 3 capo, .int .i64 0, .int .i64 0, .int .i64 0, .int .i64 0] 52) := ⟨_, rfl⟩
  rw [← hw8]
  have hO : Blk w8 w7.heap.size 52 #[.int .i64 1, .int .i64 1, .int .i64 1, .int .i64 0, .slice Ao 3 capo, .int .i64 0, .int .i64 0, .int .i64 0, .int .i64 0] := by rw [hw8]; exact Blk.new _ _ _
  have hbq : Below w7.heap.size w7 w8 := by rw [hw8]; exact one_box _ _
  have hsw8 : w7.heap.size < w8.heap.size := hO.lt
  clear hw8
  replace hX := hX.over hbq
  replace hY := hY.over hbq
  replace hB := hB.over hbq
  replace hrd := hrd.over hbq
  replace hrg := hrg.over hbq
  replace hr3 := hr3.over hbq
  replace hb3 := Below.then hb3 hbq
  replace how := own_over how hbq
  replace hoi := own_over hoi hbq
  replace hoo := own_over hoo hbq
  clear hbq
  -- other
  refine (DecodeItem_r (some ⟨g, 0, none⟩) n cap1 bs w8 hrg h2' hn _ _ HE.out).mono ?_
  rintro _ w9 ⟨Az, capz, rfl, hoz, hb9⟩
  simp only at hoz
  have HBZ : Hid (∀ x, (Value.slice Az ls.length capz).ownBlock = some x → w8.heap.size ≤ x ∧ x < w9.heap.size) := fun x hx => ⟨(own_block_lt hoz hx).2.1, (own_block_lt hoz hx).1⟩
  have hs9 := hb9.size
  replace hX := hX.over hb9
  replace hY := hY.over hb9
  replace hO := hO.over hb9
  replace hB := hB.over hb9
  replace hrd := hrd.over hb9
  replace hrg := hrg.over hb9
  replace hr3 := hr3.over hb9
  replace hb3 := Below.then hb3 hb9
  replace how := own_over how hb9
  replace hoi := own_over hoi hb9
  replace hoo := own_over hoo hb9
  go_wp2_with fail
  obtain ⟨wa, hwa⟩ : ∃ wa, wa = w9.alloc (.cells #[.int .i64 k, .int .i64 s, .int .i64 q, .int .i64 t, .slice Az ls.length capz, .int .i64 p, .int .i64 st, .int .i64 a, .int .i64 c] 52) := ⟨_, rfl⟩
  rw [← hwa]
  have hZ : Blk wa w9.heap.size 52 #[.int .i64 k, .int .i64 s, .int .i64 q, .int .i64 t, .slice Az ls.length capz, .int .i64 p, .int .i64 st, .int .i64 a, .int .i64 c] := by rw [hwa]; exact Blk.new _ _ _
  have hbq : Below w9.heap.size w9 wa := by rw [hwa]; exact one_box _ _
  have hswa : w9.heap.size < wa.heap.size := hZ.lt
  clear hwa
  replace hX := hX.over hbq
  replace hY := hY.over hbq
  replace hO := hO.over hbq
  replace hB := hB.over hbq
  replace hrd := hrd.over hbq
  replace hrg := hrg.over hbq
  replace hr3 := hr3.over hbq
  replace hb3 := Below.then hb3 hbq
  replace how := own_over how hbq
  replace hoi := own_over hoi hbq
  replace hoo := own_over hoo hbq
  replace hoz := own_over hoz hbq
  clear hbq
  refine (num_any _ _ (by omega) (by omega)).mono ?_
  rintro _ _ ⟨rfl, rfl⟩
  go_wp2_with fail
  refine (num_any _ _ (by omega) (by omega)).mono ?_
  rintro _ _ ⟨rfl, rfl⟩
  go_wp2_with fail
  refine (num_any _ _ (by omega) (by omega)).mono ?_
  rintro _ _ ⟨rfl, rfl⟩
  have x0 : wa.cell? ⟨w2.heap.size, 0, none⟩ = some (.int .i64 k) := by rw [hX.cell]; rfl
  have x1 : wa.cell? ⟨w2.heap.size, 1, none⟩ = some (.int .i64 s) := by rw [hX.cell]; rfl
  have x2 : wa.cell? ⟨w2.heap.size, 2, none⟩ = some (.int .i64 q) := by rw [hX.cell]; rfl
  have x3 : wa.cell? ⟨w2.heap.size, 3, none⟩ = some (.int .i64 t) := by rw [hX.cell]; rfl
  have x4 : wa.cell? ⟨w2.heap.size, 4, none⟩ = some (.slice Aw ls.length capw) := by rw [hX.cell]; rfl
  have x5 : wa.cell? ⟨w2.heap.size, 5, none⟩ = some (.int .i64 p) := by rw [hX.cell]; rfl
  have x6 : wa.cell? ⟨w2.heap.size, 6, none⟩ = some (.int .i64 st) := by rw [hX.cell]; rfl
  have x7 : wa.cell? ⟨w2.heap.size, 7, none⟩ = some (.int .i64 a) := by rw [hX.cell]; rfl
  have x8 : wa.cell? ⟨w2.heap.size, 8, none⟩ = some (.int .i64 c) := by rw [hX.cell]; rfl
  have y0 : wa.cell? ⟨w4.heap.size, 0, none⟩ = some (.int .i64 k) := by rw [hY.cell]; rfl
  have y1 : wa.cell? ⟨w4.heap.size, 1, none⟩ = some (.int .i64 s) := by rw [hY.cell]; rfl
  have y2 : wa.cell? ⟨w4.heap.size, 2, none⟩ = some (.int .i64 q) := by rw [hY.cell]; rfl
  have y3 : wa.cell? ⟨w4.heap.size, 3, none⟩ = some (.int .i64 t) := by rw [hY.cell]; rfl
  have y4 : wa.cell? ⟨w4.heap.size, 4, none⟩ = some (.slice Ai ls.length capi) := by rw [hY.cell]; rfl
  have y5 : wa.cell? ⟨w4.heap.size, 5, none⟩ = some (.int .i64 p) := by rw [hY.cell]; rfl
  have y6 : wa.cell? ⟨w4.heap.size, 6, none⟩ = some (.int .i64 st) := by rw [hY.cell]; rfl
  have y7 : wa.cell? ⟨w4.heap.size, 7, none⟩ = some (.int .i64 a) := by rw [hY.cell]; rfl
  have y8 : wa.cell? ⟨w4.heap.size, 8, none⟩ = some (.int .i64 c) := by rw [hY.cell]; rfl
  go_wp2_with fail
  clear x0 x1 x2 x3 x4 x5 x6 x7 x8
  clear y0 y1 y2 y3 y4 y5 y6 y7 y8
  refine (SameItem_yes k s q t Ai Aw ls.length capi ls.length capw wa.heap.size wa.heap.size ls p st a c wa (Rd.of_own hoi) (Rd.of_own how) (Nat.le_refl _) (Nat.le_refl _) (by omega)).mono ?_
  rintro _ wb ⟨rfl, hbb⟩
  have hsb := hbb.size
  replace hX := hX.over hbb
  replace hY := hY.over hbb
  replace hO := hO.over hbb
  replace hZ := hZ.over hbb
  replace hB := hB.over hbb
  replace hrd := hrd.over hbb
  replace hrg := hrg.over hbb
  replace hr3 := hr3.over hbb
  replace hb3 := Below.then hb3 hbb
  replace how := own_over how hbb
  replace hoi := own_over hoi hbb
  replace hoo := own_over hoo hbb
  replace hoz := own_over hoz hbb
  have z0 : wb.cell? ⟨w9.heap.size, 0, none⟩ = some (.int .i64 k) := by rw [hZ.cell]; rfl
  have z1 : wb.cell? ⟨w9.heap.size, 1, none⟩ = some (.int .i64 s) := by rw [hZ.cell]; rfl
  have z2 : wb.cell? ⟨w9.heap.size, 2, none⟩ = some (.int .i64 q) := by rw [hZ.cell]; rfl
  have z3 : wb.cell? ⟨w9.heap.size, 3, none⟩ = some (.int .i64 t) := by rw [hZ.cell]; rfl
  have z4 : wb.cell? ⟨w9.heap.size, 4, none⟩ = some (.slice Az ls.length capz) := by rw [hZ.cell]; rfl
  have z5 : wb.cell? ⟨w9.heap.size, 5, none⟩ = some (.int .i64 p) := by rw [hZ.cell]; rfl
  have z6 : wb.cell? ⟨w9.heap.size, 6, none⟩ = some (.int .i64 st) := by rw [hZ.cell]; rfl
  have z7 : wb.cell? ⟨w9.heap.size, 7, none⟩ = some (.int .i64 a) := by rw [hZ.cell]; rfl
  have z8 : wb.cell? ⟨w9.heap.size, 8, none⟩ = some (.int .i64 c) := by rw [hZ.cell]; rfl
  have x0 : wb.cell? ⟨w2.heap.size, 0, none⟩ = some (.int .i64 k) := by rw [hX.cell]; rfl
  have x1 : wb.cell? ⟨w2.heap.size, 1, none⟩ = some (.int .i64 s) := by rw [hX.cell]; rfl
  have x2 : wb.cell? ⟨w2.heap.size, 2, none⟩ = some (.int .i64 q) := by rw [hX.cell]; rfl
  have x3 : wb.cell? ⟨w2.heap.size, 3, none⟩ = some (.int .i64 t) := by rw [hX.cell]; rfl
  have x4 : wb.cell? ⟨w2.heap.size, 4, none⟩ = some (.slice Aw ls.length capw) := by rw [hX.cell]; rfl
  have x5 : wb.cell? ⟨w2.heap.size, 5, none⟩ = some (.int .i64 p) := by rw [hX.cell]; rfl
  have x6 : wb.cell? ⟨w2.heap.size, 6, none⟩ = some (.int .i64 st) := by rw [hX.cell]; rfl
  have x7 : wb.cell? ⟨w2.heap.size, 7, none⟩ = some (.int .i64 a) := by rw [hX.cell]; rfl
  have x8 : wb.cell? ⟨w2.heap.size, 8, none⟩ = some (.int .i64 c) := by rw [hX.cell]; rfl
  go_wp2_with fail
  clear x0 x1 x2 x3 x4 x5 x6 x7 x8
  clear z0 z1 z2 z3 z4 z5 z6 z7 z8
  refine (SameItem_yes k s q t Az Aw ls.length capz ls.length capw wb.heap.size wb.heap.size ls p st a c wb (Rd.of_own hoz) (Rd.of_own how) (Nat.le_refl _) (Nat.le_refl _) (by omega)).mono ?_
  rintro _ wc ⟨rfl, hbc⟩
  have hsc := hbc.size
  replace hX := hX.over hbc
  replace hY := hY.over hbc
  replace hO := hO.over hbc
  replace hZ := hZ.over hbc
  replace hB := hB.over hbc
  replace hrd := hrd.over hbc
  replace hrg := hrg.over hbc
  replace hr3 := hr3.over hbc
  replace hb3 := Below.then hb3 hbc
  replace how := own_over how hbc
  replace hoi := own_over hoi hbc
  replace hoo := own_over hoo hbc
  replace hoz := own_over hoz hbc
  go_wp2_with fail
  refine (Unspoilt_b _ _ _ _ _ _ _ _ _ _ hrd hr3 (by omega)).mono ?_
  rintro _ wA ⟨rfl, hbA⟩
  have hsA := hbA.size
  replace hX := hX.over hbA
  replace hY := hY.over hbA
  replace hO := hO.over hbA
  replace hZ := hZ.over hbA
  replace hB := hB.over hbA
  replace hrd := hrd.over hbA
  replace hrg := hrg.over hbA
  replace hr3 := hr3.over hbA
  replace hb3 := Below.then hb3 hbA
  replace how := own_over how hbA
  replace hoi := own_over hoi hbA
  replace hoo := own_over hoo hbA
  replace hoz := own_over hoz hbA
  -- the book
  obtain ⟨FP, hFP⟩ : ∃ FP : Nat → Prop, FP = fun k => wA.heap.size ≤ k ∨ (Value.slice Ai ls.length capi).ownBlock = some k ∨ (Value.slice Az ls.length capz).ownBlock = some k ∨ (Value.slice Ao 3 capo).ownBlock = some k := ⟨_, rfl⟩
  have hF1 : ∀ k, FP k → w3.heap.size ≤ k ∧ k ≠ w4.heap.size ∧ k ≠ w7.heap.size ∧ k ≠ w9.heap.size := by
    rw [hFP]
    rintro k (h | h | h | h)
    · omega
    · have := HBI.out k h; omega
    · have := HBZ.out k h; omega
    · have := HBO.out k h; omega
  have hFi : ∀ k, (Value.slice Ai ls.length capi).ownBlock = some k → FP k := by rw [hFP]; exact fun k h => .inr (.inl h)
  have hFz : ∀ k, (Value.slice Az ls.length capz).ownBlock = some k → FP k := by rw [hFP]; exact fun k h => .inr (.inr (.inl h))
  have hFo : ∀ k, (Value.slice Ao 3 capo).ownBlock = some k → FP k := by rw [hFP]; exact fun k h => .inr (.inr (.inr h))
  have hnew : ∀ k, wA.heap.size ≤ k → FP k := by rw [hFP]; exact fun k h => .inl h
  clear hFP
  obtain ⟨wB, hwB⟩ : ∃ wB, wB = wA.alloc (.cells #[.slice none 0 0, .slice none 0 0, .int .i64 0] 36) := ⟨_, rfl⟩
  have hk0 : BookIs wB FP wA.heap.size [] [] 0 (.slice none 0 0) (.slice none 0 0) := by rw [hwB]; exact BookIs.empty wA FP hnew
  have hbB : Below wA.heap.size wA wB := by rw [hwB]; exact one_box _ _
  have hsB : wA.heap.size < wB.heap.size := hk0.blk.lt
  have HWB := Lib.hid hwB
  clear hwB
  replace hX := hX.over hbB
  replace hY := hY.over hbB
  replace hO := hO.over hbB
  replace hZ := hZ.over hbB
  replace hB := hB.over hbB
  replace hrd := hrd.over hbB
  replace hrg := hrg.over hbB
  replace hr3 := hr3.over hbB
  replace hb3 := Below.then hb3 hbB
  replace how := own_over how hbB
  replace hoi := own_over hoi hbB
  replace hoo := own_over hoo hbB
  replace hoz := own_over hoz hbB
  have hoi := own_base hoi (Nat.zero_le _)
  have hoo := own_base hoo (Nat.zero_le _)
  have hoz := own_base hoz (Nat.zero_le _)
  have HNW : Hid (∀ x, (Value.slice Aw ls.length capw).ownBlock = some x → x < w3.heap.size) := fun x hx => by have := HNW0.out x hx; show x < w3.heap.size; omega
  have HNWg : Hid (∀ x, (Value.slice Aw ls.length capw).ownBlock = some x → x ≠ g) := fun x hx => by have := HNW0.out x hx; show x ≠ g; omega
  clear hrd hrg hr3 hbB
  have y4 : wB.cell? ⟨w4.heap.size, 4, none⟩ = some (.slice Ai ls.length capi) := by rw [hY.cell]; rfl
  rw [HWB.out] at y4
  go_wp2_with fail
  rw [← HWB.out]
  clear y4
  -- Keep(it)
  refine (Keep_any FP wA.heap.size [] [] 0 _ _ _ ls.length _ _ hk0 (by simp) hoi hFi (by omega) (by omega) (by omega) (fun _ _ p hp => by simp at hp)).mono ?_
  rintro _ wC ⟨rfl, pv1, q1, hk1, hq1, hqb1, hc1⟩
  rw [List.nil_append] at hk1
  have hoz := hk0.ownK hc1 hoz
  have hoo := hk0.ownK hc1 hoo
  have hoi := hk0.ownK hc1 hoi
  have hcF := hk0.toFP hc1
  have hsC := hc1.size
  clear hc1 hk0
  have z4 : wC.cell? ⟨w9.heap.size, 4, none⟩ = some (.slice Az ls.length capz) := by rw [(hZ.chg hcF (fun h => by have := hF1 _ h; omega)).cell]; rfl
  -- Write(other)
  go_wp2_with fail
  clear z4
  refine (Write_any FP wA.heap.size [q1] [] _ _ _ _ ls.length _ _ hk1 (by simp) hoz hFz (by omega) (by omega) (by omega) (fun x hx p hp hpg => ?_)).mono ?_
  · simp only [List.mem_singleton] at hp
    subst hp
    have h1 := HBZ.out x hx
    rcases hqb1 x hpg with h | h
    · have := HBI.out x h; omega
    · omega
  rintro _ wD ⟨rfl, pv2, q2, hk2, hq2, hqb2, hc2⟩
  have hoo := hk1.ownW hc2 hoo (fun x hx h => by have h1 := HBO.out x hx; have h2 := HBZ.out x h; omega)
  have hoi := hk1.ownW hc2 hoi (fun x hx h => by have h1 := HBI.out x hx; have h2 := HBZ.out x h; omega)
  have hcF2 := hk1.toFPW hFz hc2
  have hcF := hcF.trans hcF2
  have hsD := hc2.size
  clear hc2 hk1 hcF2 hoz
  have o4 : wD.cell? ⟨w7.heap.size, 4, none⟩ = some (.slice Ao 3 capo) := by rw [(hO.chg hcF (fun h => by have := hF1 _ h; omega)).cell]; rfl
  -- Keep(o)
  go_wp2_with fail
  clear o4
  refine (Keep_any FP wA.heap.size ([q1] ++ [q2]) [] _ _ _ _ 3 _ _ hk2 (by simp) hoo hFo (by omega) (by omega) (by omega) (fun x hx p hp hpg => ?_)).mono ?_
  · have h1 := HBO.out x hx
    simp only [List.cons_append, List.nil_append, List.mem_cons, List.not_mem_nil, or_false] at hp
    rcases hp with rfl | rfl
    · rcases hqb1 x hpg with h | h
      · have := HBI.out x h; omega
      · omega
    · rcases hqb2 x hpg with h | h
      · have := HBZ.out x h; omega
      · omega
  rintro _ wE ⟨rfl, pv3, q3, hk3, hq3, hqb3, hc3⟩
  have hoi := hk2.ownK hc3 hoi
  have hcF3 := hk2.toFP hc3
  have hcF := hcF.trans hcF3
  have hsE := hc3.size
  clear hc3 hk2 hcF3 hoo hqb1 hqb2 hqb3
  have hbF : Below w3.heap.size wB wE := hcF.belowF (fun k h => (hF1 k h).1) (by omega)
  have hX := hX.below hbF (by omega)
  have hY := hY.chg hcF (fun h => by have := hF1 _ h; omega)
  have hB := hB.below hbF (by omega)
  have how : wE.ownsRow 0 5 1 (.slice Aw ls.length capw) ls.length (bvs ls) := own_base (own_chg (S := fun x => w3.heap.size ≤ x) how (hcF.mono fun x _ hx => (hF1 x hx).1) (fun x hx => by have := HNW.out x hx; omega)) (Nat.zero_le _)
  have hb3 := hb3.trans (hbF.mono (by omega))
  clear hO hZ hcF hbF
  have hr3 : RdB wE wE.heap.size A n bs := (hr.below hb3).more hb3.size
  have hlm : (bs ++ marks).length = n + 64 := by rw [List.length_append, HL.out, show marks.length = 64 from pats_length _ _]
  have hrd := rd_blk hB HC.out hlm
  clear hlm
  -- Intact
  go_wp2_with fail
  refine (Intact_any FP wA.heap.size ([q1] ++ [q2] ++ [q3]) [] _ _ _ _ hk3 (fun p hp => ?_) (by simp) (by simp) (by simp)).mono ?_
  · simp only [List.cons_append, List.nil_append, List.mem_cons, List.not_mem_nil, or_false] at hp
    rcases hp with rfl | rfl | rfl <;> assumption
  rintro _ wF ⟨rfl, hbF⟩
  have hkF := hk3.below hbF
  have hsF := hbF.size
  clear hk3
  replace hX := hX.over hbF
  replace hY := hY.over hbF
  replace hB := hB.over hbF
  replace hrd := hrd.over hbF
  replace hr3 := hr3.over hbF
  replace hb3 := Below.then hb3 hbF
  replace how := own_over how hbF
  replace hoi := own_over hoi hbF
  have y0 : wF.cell? ⟨w4.heap.size, 0, none⟩ = some (.int .i64 k) := by rw [hY.cell]; rfl
  have y1 : wF.cell? ⟨w4.heap.size, 1, none⟩ = some (.int .i64 s) := by rw [hY.cell]; rfl
  have y2 : wF.cell? ⟨w4.heap.size, 2, none⟩ = some (.int .i64 q) := by rw [hY.cell]; rfl
  have y3 : wF.cell? ⟨w4.heap.size, 3, none⟩ = some (.int .i64 t) := by rw [hY.cell]; rfl
  have y4 : wF.cell? ⟨w4.heap.size, 4, none⟩ = some (.slice Ai ls.length capi) := by rw [hY.cell]; rfl
  have y5 : wF.cell? ⟨w4.heap.size, 5, none⟩ = some (.int .i64 p) := by rw [hY.cell]; rfl
  have y6 : wF.cell? ⟨w4.heap.size, 6, none⟩ = some (.int .i64 st) := by rw [hY.cell]; rfl
  have y7 : wF.cell? ⟨w4.heap.size, 7, none⟩ = some (.int .i64 a) := by rw [hY.cell]; rfl
  have y8 : wF.cell? ⟨w4.heap.size, 8, none⟩ = some (.int .i64 c) := by rw [hY.cell]; rfl
  have x0 : wF.cell? ⟨w2.heap.size, 0, none⟩ = some (.int .i64 k) := by rw [hX.cell]; rfl
  have x1 : wF.cell? ⟨w2.heap.size, 1, none⟩ = some (.int .i64 s) := by rw [hX.cell]; rfl
  have x2 : wF.cell? ⟨w2.heap.size, 2, none⟩ = some (.int .i64 q) := by rw [hX.cell]; rfl
  have x3 : wF.cell? ⟨w2.heap.size, 3, none⟩ = some (.int .i64 t) := by rw [hX.cell]; rfl
  have x4 : wF.cell? ⟨w2.heap.size, 4, none⟩ = some (.slice Aw ls.length capw) := by rw [hX.cell]; rfl
  have x5 : wF.cell? ⟨w2.heap.size, 5, none⟩ = some (.int .i64 p) := by rw [hX.cell]; rfl
  have x6 : wF.cell? ⟨w2.heap.size, 6, none⟩ = some (.int .i64 st) := by rw [hX.cell]; rfl
  have x7 : wF.cell? ⟨w2.heap.size, 7, none⟩ = some (.int .i64 a) := by rw [hX.cell]; rfl
  have x8 : wF.cell? ⟨w2.heap.size, 8, none⟩ = some (.int .i64 c) := by rw [hX.cell]; rfl
  go_wp2_with fail
  clear x0 x1 x2 x3 x4 x5 x6 x7 x8
  clear y0 y1 y2 y3 y4 y5 y6 y7 y8
  refine (SameItem_yes k s q t Ai Aw ls.length capi ls.length capw wF.heap.size wF.heap.size ls p st a c wF (Rd.of_own hoi) (Rd.of_own how) (Nat.le_refl _) (Nat.le_refl _) (by omega)).mono ?_
  rintro _ wG ⟨rfl, hbG⟩
  have hkG := hkF.below hbG
  have hsG := hbG.size
  clear hkF
  replace hX := hX.over hbG
  replace hY := hY.over hbG
  replace hB := hB.over hbG
  replace hrd := hrd.over hbG
  replace hr3 := hr3.over hbG
  replace hb3 := Below.then hb3 hbG
  replace how := own_over how hbG
  replace hoi := own_over hoi hbG
  go_wp2_with fail
  refine (Unspoilt_b _ _ _ _ _ _ _ _ _ _ hrd hr3 (by omega)).mono ?_
  rintro _ wH ⟨rfl, hbH⟩
  have hkH := hkG.below hbH
  have hsH := hbH.size
  clear hkG
  replace hX := hX.over hbH
  replace hY := hY.over hbH
  replace hB := hB.over hbH
  replace hr3 := hr3.over hbH
  replace hb3 := Below.then hb3 hbH
  replace how := own_over how hbH
  replace hoi := own_over hoi hbH
  clear hrd
  -- turn
  go_wp2_with fail
  rw [← HL.out]
  refine (turn_any g cap1 cur bs (bvs marks ++ rest) _ hB (by rw [HC.out, bvs_append, List.append_assoc]) (by rw [HL.out]; omega)).mono ?_
  rintro _ wI ⟨vt, rfl, hot, hgr, cur', hBI, hc3⟩
  rw [HL.out] at hot ⊢
  obtain ⟨At, capt, rfl, hcapt, _⟩ := own_shape hot
  have HC3 := Lib.hid hc3
  have HNI : Hid (∀ x, (Value.slice Ai ls.length capi).ownBlock = some x → x ≠ g) := fun x hx => by have := HBI.out x hx; show x ≠ g; omega
  have hcg := Chg.of_grown hgr
  have hgne : ∀ x, some x = some g → x = g := fun x h => by simpa using h
  have hX := hX.chg hcg (fun h => by have := hgne _ h; omega)
  have hY := hY.chg hcg (fun h => by have := hgne _ h; omega)
  have how := own_chg how hcg (fun x hx h => by have := hgne _ h; exact HNWg.out x hx this)
  have hoi := own_chg hoi hcg (fun x hx h => by have := hgne _ h; exact HNI.out x hx this)
  have hkI := hkH.chg hcg (fun x hx _ _ h => by have := hgne _ h; have := hF1 x hx; omega)
  have hsI := hcg.size
  have hb3 : Below w.heap.size w wI := hb3.grown hgr hb3.size (fun k hk => by simp only [Option.some.injEq] at hk; omega)
  have hLt : (turned bs).length = n := by rw [turned_length, HL.out]
  have hrd := rd_blk (bs := turned bs ++ marks) (n := n + 64) hBI (by rw [HC3.out, bvs_append, List.append_assoc]) (by rw [List.length_append, hLt, show marks.length = 64 from pats_length _ _])
  have hrg := rd_blk hBI HC3.out hLt
  clear hB hgr hcg hc3 hkH hr3 hLt hgne
  go_wp2_with fail
  refine (DecodeItem_r (some ⟨g, 0, none⟩) n cap1 (turned bs) wI hrg h2' hn _ _ HE'.out).mono ?_
  rintro _ wJ ⟨AT, capT, rfl, hoT, hbJ⟩
  simp only at hoT
  have hkJ := hkI.below hbJ
  have hsJ := hbJ.size
  clear hkI hrg
  replace hX := hX.over hbJ
  replace hY := hY.over hbJ
  replace hrd := hrd.over hbJ
  replace hb3 := Below.then hb3 hbJ
  replace how := own_over how hbJ
  replace hoi := own_over hoi hbJ
  replace hot := own_over hot hbJ
  go_wp2_with fail
  obtain ⟨wK, hwK⟩ : ∃ wK, wK = wJ.alloc (.cells #[.int .i64 k', .int .i64 s', .int .i64 q', .int .i64 t', .slice AT ls'.length capT, .int .i64 p', .int .i64 st', .int .i64 a', .int .i64 c'] 52) := ⟨_, rfl⟩
  rw [← hwK]
  have hU : Blk wK wJ.heap.size 52 #[.int .i64 k', .int .i64 s', .int .i64 q', .int .i64 t', .slice AT ls'.length capT, .int .i64 p', .int .i64 st', .int .i64 a', .int .i64 c'] := by rw [hwK]; exact Blk.new _ _ _
  have hbq : Below wJ.heap.size wJ wK := by rw [hwK]; exact one_box _ _
  have hswK : wJ.heap.size < wK.heap.size := hU.lt
  clear hwK
  have hkK := hkJ.below hbq
  clear hkJ
  replace hX := hX.over hbq
  replace hY := hY.over hbq
  replace hrd := hrd.over hbq
  replace hb3 := Below.then hb3 hbq
  replace how := own_over how hbq
  replace hoi := own_over hoi hbq
  replace hot := own_over hot hbq
  replace hoT := own_over hoT hbq
  clear hbq
  refine (RDecodeItem_r At n capt (turned bs) wK (Rd.of_own hot) hcapt hn _ _ HE'.out).mono ?_
  rintro _ wL ⟨AN, capN, rfl, hoN, hbL⟩
  simp only at hoN
  have hkL := hkK.below hbL
  have hsL := hbL.size
  clear hkK
  replace hX := hX.over hbL
  replace hY := hY.over hbL
  replace hU := hU.over hbL
  replace hrd := hrd.over hbL
  replace hb3 := Below.then hb3 hbL
  replace how := own_over how hbL
  replace hoi := own_over hoi hbL
  replace hot := own_over hot hbL
  replace hoT := own_over hoT hbL
  go_wp2_with fail
  obtain ⟨wM, hwM⟩ : ∃ wM, wM = wL.alloc (.cells #[.int .i64 k', .int .i64 s', .int .i64 q', .int .i64 t', .slice AN ls'.length capN, .int .i64 p', .int .i64 st', .int .i64 a', .int .i64 c'] 52) := ⟨_, rfl⟩
  rw [← hwM]
  have hV : Blk wM wL.heap.size 52 #[.int .i64 k', .int .i64 s', .int .i64 q', .int .i64 t', .slice AN ls'.length capN, .int .i64 p', .int .i64 st', .int .i64 a', .int .i64 c'] := by rw [hwM]; exact Blk.new _ _ _
  have hbq : Below wL.heap.size wL wM := by rw [hwM]; exact one_box _ _
  have hswM : wL.heap.size < wM.heap.size := hV.lt
  clear hwM
  have hkM := hkL.below hbq
  clear hkL
  replace hX := hX.over hbq
  replace hY := hY.over hbq
  replace hU := hU.over hbq
  replace hrd := hrd.over hbq
  replace hb3 := Below.then hb3 hbq
  replace how := own_over how hbq
  replace hoi := own_over hoi hbq
  replace hot := own_over hot hbq
  replace hoT := own_over hoT hbq
  replace hoN := own_over hoN hbq
  clear hbq
  refine (num_any _ _ (by omega) (by omega)).mono ?_
  rintro _ _ ⟨rfl, rfl⟩
  have u0 : wM.cell? ⟨wJ.heap.size, 0, none⟩ = some (.int .i64 k') := by rw [hU.cell]; rfl
  have u1 : wM.cell? ⟨wJ.heap.size, 1, none⟩ = some (.int .i64 s') := by rw [hU.cell]; rfl
  have u2 : wM.cell? ⟨wJ.heap.size, 2, none⟩ = some (.int .i64 q') := by rw [hU.cell]; rfl
  have u3 : wM.cell? ⟨wJ.heap.size, 3, none⟩ = some (.int .i64 t') := by rw [hU.cell]; rfl
  have u4 : wM.cell? ⟨wJ.heap.size, 4, none⟩ = some (.slice AT ls'.length capT) := by rw [hU.cell]; rfl
  have u5 : wM.cell? ⟨wJ.heap.size, 5, none⟩ = some (.int .i64 p') := by rw [hU.cell]; rfl
  have u6 : wM.cell? ⟨wJ.heap.size, 6, none⟩ = some (.int .i64 st') := by rw [hU.cell]; rfl
  have u7 : wM.cell? ⟨wJ.heap.size, 7, none⟩ = some (.int .i64 a') := by rw [hU.cell]; rfl
  have u8 : wM.cell? ⟨wJ.heap.size, 8, none⟩ = some (.int .i64 c') := by rw [hU.cell]; rfl
  have v0 : wM.cell? ⟨wL.heap.size, 0, none⟩ = some (.int .i64 k') := by rw [hV.cell]; rfl
  have v1 : wM.cell? ⟨wL.heap.size, 1, none⟩ = some (.int .i64 s') := by rw [hV.cell]; rfl
  have v2 : wM.cell? ⟨wL.heap.size, 2, none⟩ = some (.int .i64 q') := by rw [hV.cell]; rfl
  have v3 : wM.cell? ⟨wL.heap.size, 3, none⟩ = some (.int .i64 t') := by rw [hV.cell]; rfl
  have v4 : wM.cell? ⟨wL.heap.size, 4, none⟩ = some (.slice AN ls'.length capN) := by rw [hV.cell]; rfl
  have v5 : wM.cell? ⟨wL.heap.size, 5, none⟩ = some (.int .i64 p') := by rw [hV.cell]; rfl
  have v6 : wM.cell? ⟨wL.heap.size, 6, none⟩ = some (.int .i64 st') := by rw [hV.cell]; rfl
  have v7 : wM.cell? ⟨wL.heap.size, 7, none⟩ = some (.int .i64 a') := by rw [hV.cell]; rfl
  have v8 : wM.cell? ⟨wL.heap.size, 8, none⟩ = some (.int .i64 c') := by rw [hV.cell]; rfl
  go_wp2_with fail
  clear u0 u1 u2 u3 u4 u5 u6 u7 u8
  clear v0 v1 v2 v3 v4 v5 v6 v7 v8
  refine (SameItem_yes k' s' q' t' AT AN ls'.length capT ls'.length capN wM.heap.size wM.heap.size ls' p' st' a' c' wM (Rd.of_own hoT) (Rd.of_own hoN) (Nat.le_refl _) (Nat.le_refl _) (by omega)).mono ?_
  rintro _ wN ⟨rfl, hbN⟩
  have hkN := hkM.below hbN
  have hsN := hbN.size
  clear hkM
  replace hX := hX.over hbN
  replace hY := hY.over hbN
  replace hrd := hrd.over hbN
  replace hb3 := Below.then hb3 hbN
  replace how := own_over how hbN
  replace hoi := own_over hoi hbN
  replace hot := own_over hot hbN
  go_wp2_with fail
  refine (Unspoilt_b _ _ _ _ _ _ _ _ _ _ hrd (Rd.of_own hot) (by omega)).mono ?_
  rintro _ wO ⟨rfl, hbO⟩
  have hkO := hkN.below hbO
  have hsO := hbO.size
  clear hkN hrd
  replace hX := hX.over hbO
  replace hY := hY.over hbO
  replace hb3 := Below.then hb3 hbO
  replace how := own_over how hbO
  replace hoi := own_over hoi hbO
  have y0 : wO.cell? ⟨w4.heap.size, 0, none⟩ = some (.int .i64 k) := by rw [hY.cell]; rfl
  have y1 : wO.cell? ⟨w4.heap.size, 1, none⟩ = some (.int .i64 s) := by rw [hY.cell]; rfl
  have y2 : wO.cell? ⟨w4.heap.size, 2, none⟩ = some (.int .i64 q) := by rw [hY.cell]; rfl
  have y3 : wO.cell? ⟨w4.heap.size, 3, none⟩ = some (.int .i64 t) := by rw [hY.cell]; rfl
  have y4 : wO.cell? ⟨w4.heap.size, 4, none⟩ = some (.slice Ai ls.length capi) := by rw [hY.cell]; rfl
  have y5 : wO.cell? ⟨w4.heap.size, 5, none⟩ = some (.int .i64 p) := by rw [hY.cell]; rfl
  have y6 : wO.cell? ⟨w4.heap.size, 6, none⟩ = some (.int .i64 st) := by rw [hY.cell]; rfl
  have y7 : wO.cell? ⟨w4.heap.size, 7, none⟩ = some (.int .i64 a) := by rw [hY.cell]; rfl
  have y8 : wO.cell? ⟨w4.heap.size, 8, none⟩ = some (.int .i64 c) := by rw [hY.cell]; rfl
  have x0 : wO.cell? ⟨w2.heap.size, 0, none⟩ = some (.int .i64 k) := by rw [hX.cell]; rfl
  have x1 : wO.cell? ⟨w2.heap.size, 1, none⟩ = some (.int .i64 s) := by rw [hX.cell]; rfl
  have x2 : wO.cell? ⟨w2.heap.size, 2, none⟩ = some (.int .i64 q) := by rw [hX.cell]; rfl
  have x3 : wO.cell? ⟨w2.heap.size, 3, none⟩ = some (.int .i64 t) := by rw [hX.cell]; rfl
  have x4 : wO.cell? ⟨w2.heap.size, 4, none⟩ = some (.slice Aw ls.length capw) := by rw [hX.cell]; rfl
  have x5 : wO.cell? ⟨w2.heap.size, 5, none⟩ = some (.int .i64 p) := by rw [hX.cell]; rfl
  have x6 : wO.cell? ⟨w2.heap.size, 6, none⟩ = some (.int .i64 st) := by rw [hX.cell]; rfl
  have x7 : wO.cell? ⟨w2.heap.size, 7, none⟩ = some (.int .i64 a) := by rw [hX.cell]; rfl
  have x8 : wO.cell? ⟨w2.heap.size, 8, none⟩ = some (.int .i64 c) := by rw [hX.cell]; rfl
  go_wp2_with fail
  clear x0 x1 x2 x3 x4 x5 x6 x7 x8
  clear y0 y1 y2 y3 y4 y5 y6 y7 y8
  refine (SameItem_yes k s q t Ai Aw ls.length capi ls.length capw wO.heap.size wO.heap.size ls p st a c wO (Rd.of_own hoi) (Rd.of_own how) (Nat.le_refl _) (Nat.le_refl _) (by omega)).mono ?_
  rintro _ wP ⟨rfl, hbP⟩
  have hkP := hkO.below hbP
  clear hkO
  replace hb3 := Below.then hb3 hbP
  go_wp2_with fail
  refine (Settle_any FP wA.heap.size ([q1] ++ [q2] ++ [q3]) [] _ _ _ _ hkP (fun p hp => ?_) (by simp) (by simp) (by simp)).mono ?_
  · simp only [List.cons_append, List.nil_append, List.mem_cons, List.not_mem_nil, or_false] at hp
    rcases hp with rfl | rfl | rfl <;> assumption
  rintro _ wQ ⟨rfl, hcS, _⟩
  go_wp2
  go_ret
  exact ⟨rfl, hb3.trans (hcS.to_below hb3.size (fun k hk => by have := hF1 k hk; omega))⟩
end Go.Proofs.Ytjafmcahlmopiaa
