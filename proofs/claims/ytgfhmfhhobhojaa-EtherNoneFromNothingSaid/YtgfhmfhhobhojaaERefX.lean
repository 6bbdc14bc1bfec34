/-
  The document's network: doPacket.
-/
import Derived.Test.YtgfhmfhhobhojaaERefV
namespace Go.Proofs.Ytgfhmfhhobhojaa
open Go.ChangeShapes Go.WideShapes Go.ChangeAt Go.RowKit
variable {w : World} {F : Nat → Prop} {c : ECfg} {D : Nat} {r : RV}
set_option maxRecDepth 100000 in
set_option maxHeartbeats 3200000 in
theorem doPkt_12 (_hc : c.Ok) (h : RNx w F c D r) (hf : RFine r) {i : Nat} {f : Flt} (hfi : r.all[i]? = some (f, false)) (a b n : Int) (BA SA : Option Addr) (bn bc sn sc : Nat) : Calls Try.prog 85 #[.pointer (some ⟨D, 0, none⟩), .agg #[.int .i64 12, .int .i64 a, .int .i64 b, .int .i64 n, .slice BA bn bc, .int .i64 0, .int .i64 0, .int .i64 0, .int .i64 0, .string ByteArray.empty, .string ByteArray.empty, .string ByteArray.empty, .slice SA sn sc], .int .i64 (i : Int)] w (StepR w F c D (.int .i64 0) ({ r with all := r.all.set i (f, true) })) := by
  have hb0 := one_box' w (.cells #[.int .i64 12, .int .i64 a, .int .i64 b, .int .i64 n, .slice BA bn bc, .int .i64 0, .int .i64 0, .int .i64 0, .int .i64 0, .string ByteArray.empty, .string ByteArray.empty, .string ByteArray.empty, .slice SA sn sc] 41)
  have hE := Blk.new w 41 #[.int .i64 12, .int .i64 a, .int .i64 b, .int .i64 n, .slice BA bn bc, .int .i64 0, .int .i64 0, .int .i64 0, .int .i64 0, .string ByteArray.empty, .string ByteArray.empty, .string ByteArray.empty, .slice SA sn sc]
  obtain ⟨w0, hw0⟩ : ∃ w0, w0 = w.alloc (.cells #[.int .i64 12, .int .i64 a, .int .i64 b, .int .i64 n, .slice BA bn bc, .int .i64 0, .int .i64 0, .int .i64 0, .int .i64 0, .string ByteArray.empty, .string ByteArray.empty, .string ByteArray.empty, .slice SA sn sc] 41) := ⟨_, rfl⟩
  rw [← hw0] at hb0 hE
  have HW0 := Lib.hid hw0
  have HB0 := Lib.hid hb0
  have HH := Lib.hid h
  have HFN := Lib.hid hf
  have hs0 := hb0.size
  obtain ⟨hF0, v, X, hX⟩ := h.below hb0
  obtain ⟨A6, cap6, rfl, hcp6, hcm6⟩ := own_shape hX.row
  obtain ⟨hs16, hd16, hdue, hbl⟩ := hf.fl _ (List.mem_of_getElem? hfi)
  dsimp only at hs16 hd16 hdue hbl
  have hiX : i < X.length := by rw [← hX.len]; exact (List.getElem?_eq_some_iff.1 hfi).1
  have hiI : (i : Int) < (X.length : Int) := by omega
  have HFI := Lib.hid hfi
  obtain ⟨g, cap, f', q', u, hv, hx, hai, m0, m1, m2, m3, m4, m5⟩ := hX.pkt hiX
  have hff := hai.symm.trans hfi
  simp only [Option.some.injEq, Prod.mk.injEq] at hff
  obtain ⟨rfl, rfl⟩ := hff
  injection hv with hv1 hv2 hv3
  subst hv1
  clear hv2 hv3
  have hby := hX.bytes _ (List.mem_of_getElem? hx)
  dsimp only at hby
  obtain ⟨uA, uc, rfl, _, _⟩ := own_shape hby
  have c6 : w0.cell? ⟨D, 563, none⟩ = some (.slice (some ⟨g, 0, none⟩) X.length cap6) := hX.cell.2.2.2
  obtain ⟨w1, hw1⟩ : ∃ w1, w1 = w0.alloc (.cells #[.int .i64 (f'.id : Int), .int .i64 (f'.src : Int), .int .i64 (f'.dst : Int), .int .i64 (f'.due : Int), .slice uA f'.bs.length uc] 48) := ⟨_, rfl⟩
  have hb1 := one_box' w0 (.cells #[.int .i64 (f'.id : Int), .int .i64 (f'.src : Int), .int .i64 (f'.dst : Int), .int .i64 (f'.due : Int), .slice uA f'.bs.length uc] 48)
  have hY := Blk.new w0 48 #[.int .i64 (f'.id : Int), .int .i64 (f'.src : Int), .int .i64 (f'.dst : Int), .int .i64 (f'.due : Int), .slice uA f'.bs.length uc]
  rw [← hw1] at hb1 hY
  have HX1 := Lib.hid (hX.below hF0 hb1)
  have HBY := Lib.hid (own_over hby hb1)
  have HB1 : Hid (Below w.heap.size w w1) := Lib.hid (hb0.trans (hb1.mono hs0))
  have HE1 := Lib.hid (hE.over hb1)
  have HY := Lib.hid hY
  have HXI := Lib.hid hx
  have HW1 := Lib.hid hw1
  have hs1 := hb1.size
  have e0 : w1.cell? ⟨w.heap.size, 0, none⟩ = some (.int .i64 12) := HE1.out.cell 0
  have e3 : w1.cell? ⟨w.heap.size, 3, none⟩ = some (.int .i64 n) := HE1.out.cell 3
  have y1 : w1.cell? ⟨w0.heap.size, 1, none⟩ = some (.int .i64 (f'.src : Int)) := hY.cell 1
  have y2 : w1.cell? ⟨w0.heap.size, 2, none⟩ = some (.int .i64 (f'.dst : Int)) := hY.cell 2
  have y3 : w1.cell? ⟨w0.heap.size, 3, none⟩ = some (.int .i64 (f'.due : Int)) := hY.cell 3
  have y4 : w1.cell? ⟨w0.heap.size, 4, none⟩ = some (.slice uA f'.bs.length uc) := hY.cell 4
  have d6 : w1.cell? ⟨D, 563, none⟩ = some (.slice (some ⟨g, 0, none⟩) X.length cap6) := HX1.out.cell.2.2.2
  have HFW : Hid (∀ k, F k → k < w.heap.size) := Lib.hid h.1
  obtain ⟨_, _, curg, hBg⟩ := own_block_lt HX1.out.row (g := g) rfl
  have HBG := Lib.hid hBg
  have HFg : Hid (F g) := Lib.hid (HX1.out.fv g rfl)
  clear hw0 hw1 hb0 hb1 hE hY hF0 hX hx hai hfi hby h hf hBg m5
  have z5 : w1.cell? ⟨g, i * 6 + 5, none⟩ = some (.bool false) := by
    obtain ⟨g', cap', f'', q'', u', hv, hx, hai, _, _, _, _, _, m5⟩ := HX1.out.pkt hiX
    have hff := hai.symm.trans HFI.out
    simp only [Option.some.injEq, Prod.mk.injEq] at hff
    injection hv with hv1
    injection hv1 with hv1
    injection hv1 with hv1
    rw [hv1, m5, hff.2]
  have zf : w1.frozen? ⟨g, i * 6 + 5, none⟩ = false := HBG.out.frozen _
  obtain ⟨w2, hw2⟩ : ∃ w2, w2 = w1.setCell ⟨g, i * 6 + 5, none⟩ (.bool true) := ⟨_, rfl⟩
  have HE : Hid (StepR w F c D (.int .i64 0) { r with all := r.all.set i (f', true) } (.returned (.int .i64 0)) w2) := by
    have h2 := HX1.out.setR (f' := f') (q' := true) (u' := .bool true) (i := 5) HXI.out (by omega) rfl rfl
    rw [← hw2] at h2
    exact Lib.hid (StepR.of HFW.out (by rw [hw2]; exact (Chg.of_below HB1.out F).setCell (.inl HFg.out) _) h2)
  have HW2 := Lib.hid hw2
  clear hw2

  go_enter Try.func85, Try.ntmps85
  go_upto_region 1 with fail
  rw [← HW0.out]
  go_upto_region 2 with fail
  rw [← HW1.out]
  clear m0 m1 m2 m3 m4 c6

  go_upto_region 17 with fail
  rw [← HW2.out]
  go_wp2
  go_ret
  exact HE.out
set_option maxRecDepth 100000 in
set_option maxHeartbeats 3200000 in
theorem doPkt_13no (_hc : c.Ok) (h : RNx w F c D r) (hf : RFine r) {i : Nat} {f : Flt} (hfi : r.all[i]? = some (f, false)) (a b n : Int) (BA SA : Option Addr) (bn bc sn sc : Nat) (hrm : c.room ≤ (wayOf r.all).length) : Calls Try.prog 85 #[.pointer (some ⟨D, 0, none⟩), .agg #[.int .i64 13, .int .i64 a, .int .i64 b, .int .i64 n, .slice BA bn bc, .int .i64 0, .int .i64 0, .int .i64 0, .int .i64 0, .string ByteArray.empty, .string ByteArray.empty, .string ByteArray.empty, .slice SA sn sc], .int .i64 (i : Int)] w (StepR w F c D (.int .i64 31) (r)) := by
  have hb0 := one_box' w (.cells #[.int .i64 13, .int .i64 a, .int .i64 b, .int .i64 n, .slice BA bn bc, .int .i64 0, .int .i64 0, .int .i64 0, .int .i64 0, .string ByteArray.empty, .string ByteArray.empty, .string ByteArray.empty, .slice SA sn sc] 41)
  have hE := Blk.new w 41 #[.int .i64 13, .int .i64 a, .int .i64 b, .int .i64 n, .slice BA bn bc, .int .i64 0, .int .i64 0, .int .i64 0, .int .i64 0, .string ByteArray.empty, .string ByteArray.empty, .string ByteArray.empty, .slice SA sn sc]
  obtain ⟨w0, hw0⟩ : ∃ w0, w0 = w.alloc (.cells #[.int .i64 13, .int .i64 a, .int .i64 b, .int .i64 n, .slice BA bn bc, .int .i64 0, .int .i64 0, .int .i64 0, .int .i64 0, .string ByteArray.empty, .string ByteArray.empty, .string ByteArray.empty, .slice SA sn sc] 41) := ⟨_, rfl⟩
  rw [← hw0] at hb0 hE
  have HW0 := Lib.hid hw0
  have HB0 := Lib.hid hb0
  have HH := Lib.hid h
  have HFN := Lib.hid hf
  have hs0 := hb0.size
  obtain ⟨hF0, v, X, hX⟩ := h.below hb0
  obtain ⟨A6, cap6, rfl, hcp6, hcm6⟩ := own_shape hX.row
  obtain ⟨hs16, hd16, hdue, hbl⟩ := hf.fl _ (List.mem_of_getElem? hfi)
  dsimp only at hs16 hd16 hdue hbl
  have hiX : i < X.length := by rw [← hX.len]; exact (List.getElem?_eq_some_iff.1 hfi).1
  have hiI : (i : Int) < (X.length : Int) := by omega
  have HFI := Lib.hid hfi
  obtain ⟨g, cap, f', q', u, hv, hx, hai, m0, m1, m2, m3, m4, m5⟩ := hX.pkt hiX
  have hff := hai.symm.trans hfi
  simp only [Option.some.injEq, Prod.mk.injEq] at hff
  obtain ⟨rfl, rfl⟩ := hff
  injection hv with hv1 hv2 hv3
  subst hv1
  clear hv2 hv3
  have hby := hX.bytes _ (List.mem_of_getElem? hx)
  dsimp only at hby
  obtain ⟨uA, uc, rfl, _, _⟩ := own_shape hby
  have c6 : w0.cell? ⟨D, 563, none⟩ = some (.slice (some ⟨g, 0, none⟩) X.length cap6) := hX.cell.2.2.2
  obtain ⟨w1, hw1⟩ : ∃ w1, w1 = w0.alloc (.cells #[.int .i64 (f'.id : Int), .int .i64 (f'.src : Int), .int .i64 (f'.dst : Int), .int .i64 (f'.due : Int), .slice uA f'.bs.length uc] 48) := ⟨_, rfl⟩
  have hb1 := one_box' w0 (.cells #[.int .i64 (f'.id : Int), .int .i64 (f'.src : Int), .int .i64 (f'.dst : Int), .int .i64 (f'.due : Int), .slice uA f'.bs.length uc] 48)
  have hY := Blk.new w0 48 #[.int .i64 (f'.id : Int), .int .i64 (f'.src : Int), .int .i64 (f'.dst : Int), .int .i64 (f'.due : Int), .slice uA f'.bs.length uc]
  rw [← hw1] at hb1 hY
  have HX1 := Lib.hid (hX.below hF0 hb1)
  have HBY := Lib.hid (own_over hby hb1)
  have HB1 : Hid (Below w.heap.size w w1) := Lib.hid (hb0.trans (hb1.mono hs0))
  have HE1 := Lib.hid (hE.over hb1)
  have HY := Lib.hid hY
  have HXI := Lib.hid hx
  have HW1 := Lib.hid hw1
  have hs1 := hb1.size
  have e0 : w1.cell? ⟨w.heap.size, 0, none⟩ = some (.int .i64 13) := HE1.out.cell 0
  have e3 : w1.cell? ⟨w.heap.size, 3, none⟩ = some (.int .i64 n) := HE1.out.cell 3
  have y1 : w1.cell? ⟨w0.heap.size, 1, none⟩ = some (.int .i64 (f'.src : Int)) := hY.cell 1
  have y2 : w1.cell? ⟨w0.heap.size, 2, none⟩ = some (.int .i64 (f'.dst : Int)) := hY.cell 2
  have y3 : w1.cell? ⟨w0.heap.size, 3, none⟩ = some (.int .i64 (f'.due : Int)) := hY.cell 3
  have y4 : w1.cell? ⟨w0.heap.size, 4, none⟩ = some (.slice uA f'.bs.length uc) := hY.cell 4
  have d6 : w1.cell? ⟨D, 563, none⟩ = some (.slice (some ⟨g, 0, none⟩) X.length cap6) := HX1.out.cell.2.2.2
  have HFW : Hid (∀ k, F k → k < w.heap.size) := Lib.hid h.1
  obtain ⟨_, _, curg, hBg⟩ := own_block_lt HX1.out.row (g := g) rfl
  have HBG := Lib.hid hBg
  have HFg : Hid (F g) := Lib.hid (HX1.out.fv g rfl)
  clear hw0 hw1 hb0 hb1 hE hY hF0 hX hx hai hfi hby h hf hBg m5
  have HWY := Lib.hid (way_any (HH.out.below HB1.out) HFN.out.all)
  have HRM := Lib.hid hrm
  clear hrm

  go_enter Try.func85, Try.ntmps85
  go_upto_region 1 with fail
  rw [← HW0.out]
  go_upto_region 2 with fail
  rw [← HW1.out]
  clear m0 m1 m2 m3 m4 c6

  go_upto_region 10 with (go_at_call 82; refine HWY.out.mono ?_; rintro _ w2 ⟨A8, n8, c8, rfl, hs⟩; have HS := Lib.hid hs; clear hs)
  have hB2 : Below w.heap.size w w2 := HB1.out.trans (HS.out.below.mono (by omega))
  have d1 : w2.cell? ⟨D, 1, none⟩ = some (.int .i64 (c.room : Int)) := by
    obtain ⟨_, _, _, h3⟩ := HH.out.below hB2
    exact h3.cell.2.1
  have hrI : (c.room : Int) ≤ (n8 : Int) := by
    have h1 := HS.out.len
    rw [idxOf_length] at h1
    have h2 := HRM.out
    omega
  have HB2 := Lib.hid hB2
  clear hB2
  go_wp2
  go_ret
  exact StepR.same HH.out HB2.out
set_option maxRecDepth 100000 in
set_option maxHeartbeats 3200000 in
theorem doPkt_13yes (_hc : c.Ok) (h : RNx w F c D r) (hf : RFine r) {i : Nat} {f : Flt} (hfi : r.all[i]? = some (f, false)) (a b n : Int) (BA SA : Option Addr) (bn bc sn sc : Nat) (hrm : ¬ c.room ≤ (wayOf r.all).length) : Calls Try.prog 85 #[.pointer (some ⟨D, 0, none⟩), .agg #[.int .i64 13, .int .i64 a, .int .i64 b, .int .i64 n, .slice BA bn bc, .int .i64 0, .int .i64 0, .int .i64 0, .int .i64 0, .string ByteArray.empty, .string ByteArray.empty, .string ByteArray.empty, .slice SA sn sc], .int .i64 (i : Int)] w (StepR w F c D (.int .i64 0) (putR r f.src f.dst f.due f.bs)) := by
  have hb0 := one_box' w (.cells #[.int .i64 13, .int .i64 a, .int .i64 b, .int .i64 n, .slice BA bn bc, .int .i64 0, .int .i64 0, .int .i64 0, .int .i64 0, .string ByteArray.empty, .string ByteArray.empty, .string ByteArray.empty, .slice SA sn sc] 41)
  have hE := Blk.new w 41 #[.int .i64 13, .int .i64 a, .int .i64 b, .int .i64 n, .slice BA bn bc, .int .i64 0, .int .i64 0, .int .i64 0, .int .i64 0, .string ByteArray.empty, .string ByteArray.empty, .string ByteArray.empty, .slice SA sn sc]
  obtain ⟨w0, hw0⟩ : ∃ w0, w0 = w.alloc (.cells #[.int .i64 13, .int .i64 a, .int .i64 b, .int .i64 n, .slice BA bn bc, .int .i64 0, .int .i64 0, .int .i64 0, .int .i64 0, .string ByteArray.empty, .string ByteArray.empty, .string ByteArray.empty, .slice SA sn sc] 41) := ⟨_, rfl⟩
  rw [← hw0] at hb0 hE
  have HW0 := Lib.hid hw0
  have HB0 := Lib.hid hb0
  have HH := Lib.hid h
  have HFN := Lib.hid hf
  have hs0 := hb0.size
  obtain ⟨hF0, v, X, hX⟩ := h.below hb0
  obtain ⟨A6, cap6, rfl, hcp6, hcm6⟩ := own_shape hX.row
  obtain ⟨hs16, hd16, hdue, hbl⟩ := hf.fl _ (List.mem_of_getElem? hfi)
  dsimp only at hs16 hd16 hdue hbl
  have hiX : i < X.length := by rw [← hX.len]; exact (List.getElem?_eq_some_iff.1 hfi).1
  have hiI : (i : Int) < (X.length : Int) := by omega
  have HFI := Lib.hid hfi
  obtain ⟨g, cap, f', q', u, hv, hx, hai, m0, m1, m2, m3, m4, m5⟩ := hX.pkt hiX
  have hff := hai.symm.trans hfi
  simp only [Option.some.injEq, Prod.mk.injEq] at hff
  obtain ⟨rfl, rfl⟩ := hff
  injection hv with hv1 hv2 hv3
  subst hv1
  clear hv2 hv3
  have hby := hX.bytes _ (List.mem_of_getElem? hx)
  dsimp only at hby
  obtain ⟨uA, uc, rfl, _, _⟩ := own_shape hby
  have c6 : w0.cell? ⟨D, 563, none⟩ = some (.slice (some ⟨g, 0, none⟩) X.length cap6) := hX.cell.2.2.2
  obtain ⟨w1, hw1⟩ : ∃ w1, w1 = w0.alloc (.cells #[.int .i64 (f'.id : Int), .int .i64 (f'.src : Int), .int .i64 (f'.dst : Int), .int .i64 (f'.due : Int), .slice uA f'.bs.length uc] 48) := ⟨_, rfl⟩
  have hb1 := one_box' w0 (.cells #[.int .i64 (f'.id : Int), .int .i64 (f'.src : Int), .int .i64 (f'.dst : Int), .int .i64 (f'.due : Int), .slice uA f'.bs.length uc] 48)
  have hY := Blk.new w0 48 #[.int .i64 (f'.id : Int), .int .i64 (f'.src : Int), .int .i64 (f'.dst : Int), .int .i64 (f'.due : Int), .slice uA f'.bs.length uc]
  rw [← hw1] at hb1 hY
  have HX1 := Lib.hid (hX.below hF0 hb1)
  have HBY := Lib.hid (own_over hby hb1)
  have HB1 : Hid (Below w.heap.size w w1) := Lib.hid (hb0.trans (hb1.mono hs0))
  have HE1 := Lib.hid (hE.over hb1)
  have HY := Lib.hid hY
  have HXI := Lib.hid hx
  have HW1 := Lib.hid hw1
  have hs1 := hb1.size
  have e0 : w1.cell? ⟨w.heap.size, 0, none⟩ = some (.int .i64 13) := HE1.out.cell 0
  have e3 : w1.cell? ⟨w.heap.size, 3, none⟩ = some (.int .i64 n) := HE1.out.cell 3
  have y1 : w1.cell? ⟨w0.heap.size, 1, none⟩ = some (.int .i64 (f'.src : Int)) := hY.cell 1
  have y2 : w1.cell? ⟨w0.heap.size, 2, none⟩ = some (.int .i64 (f'.dst : Int)) := hY.cell 2
  have y3 : w1.cell? ⟨w0.heap.size, 3, none⟩ = some (.int .i64 (f'.due : Int)) := hY.cell 3
  have y4 : w1.cell? ⟨w0.heap.size, 4, none⟩ = some (.slice uA f'.bs.length uc) := hY.cell 4
  have d6 : w1.cell? ⟨D, 563, none⟩ = some (.slice (some ⟨g, 0, none⟩) X.length cap6) := HX1.out.cell.2.2.2
  have HFW : Hid (∀ k, F k → k < w.heap.size) := Lib.hid h.1
  obtain ⟨_, _, curg, hBg⟩ := own_block_lt HX1.out.row (g := g) rfl
  have HBG := Lib.hid hBg
  have HFg : Hid (F g) := Lib.hid (HX1.out.fv g rfl)
  clear hw0 hw1 hb0 hb1 hE hY hF0 hX hx hai hfi hby h hf hBg m5
  have HWY := Lib.hid (way_any (HH.out.below HB1.out) HFN.out.all)
  have HRM := Lib.hid hrm
  have HBL := Lib.hid hbl
  clear hrm

  go_enter Try.func85, Try.ntmps85
  go_upto_region 1 with fail
  rw [← HW0.out]
  go_upto_region 2 with fail
  rw [← HW1.out]
  clear m0 m1 m2 m3 m4 c6

  go_upto_region 10 with (go_at_call 82; refine HWY.out.mono ?_; rintro _ w2 ⟨A8, n8, c8, rfl, hs⟩; have HS := Lib.hid hs; clear hs)
  have hB2 : Below w.heap.size w w2 := HB1.out.trans (HS.out.below.mono (by omega))
  have hs2 := HS.out.below.size
  have d1 : w2.cell? ⟨D, 1, none⟩ = some (.int .i64 (c.room : Int)) := by
    obtain ⟨_, _, _, h3⟩ := HH.out.below hB2
    exact h3.cell.2.1
  have hrI : ¬ (c.room : Int) ≤ (n8 : Int) := by
    have h1 := HS.out.len
    rw [idxOf_length] at h1
    have h2 := HRM.out
    omega
  have hY2 := HY.out.over HS.out.below
  have z1 : w2.cell? ⟨w0.heap.size, 1, none⟩ = some (.int .i64 (f'.src : Int)) := hY2.cell 1
  have z2 : w2.cell? ⟨w0.heap.size, 2, none⟩ = some (.int .i64 (f'.dst : Int)) := hY2.cell 2
  have z3 : w2.cell? ⟨w0.heap.size, 3, none⟩ = some (.int .i64 (f'.due : Int)) := hY2.cell 3
  have z4 : w2.cell? ⟨w0.heap.size, 4, none⟩ = some (.slice uA f'.bs.length uc) := hY2.cell 4
  have HPU := Lib.hid (put_any (HH.out.below hB2) f'.src f'.dst f'.due uA uc f'.bs (Rd.of_own (own_over HBY.out HS.out.below)) (by have := HBL.out; omega) HFN.out.all)
  have HB2 := Lib.hid hB2
  clear hB2 hY2 e3 y1 y2 y3 y4 d6
  go_wp2_with (go_at_call 86; refine HPU.out.mono ?_; rintro _ w3 hst; have hv := hst.1; subst hv; have HST := Lib.hid hst; clear hst)
  go_ret
  exact StepR.behind HB2.out HST.out
set_option maxRecDepth 100000 in
set_option maxHeartbeats 3200000 in
theorem doPkt_15no (_hc : c.Ok) (h : RNx w F c D r) (hf : RFine r) {i : Nat} {f : Flt} (hfi : r.all[i]? = some (f, false)) (a b n : Int) (BA SA : Option Addr) (bn bc sn sc : Nat) (hno : n < 1 ∨ 16 < n) : Calls Try.prog 85 #[.pointer (some ⟨D, 0, none⟩), .agg #[.int .i64 15, .int .i64 a, .int .i64 b, .int .i64 n, .slice BA bn bc, .int .i64 0, .int .i64 0, .int .i64 0, .int .i64 0, .string ByteArray.empty, .string ByteArray.empty, .string ByteArray.empty, .slice SA sn sc], .int .i64 (i : Int)] w (StepR w F c D (.int .i64 1) (r)) := by
  have hb0 := one_box' w (.cells #[.int .i64 15, .int .i64 a, .int .i64 b, .int .i64 n, .slice BA bn bc, .int .i64 0, .int .i64 0, .int .i64 0, .int .i64 0, .string ByteArray.empty, .string ByteArray.empty, .string ByteArray.empty, .slice SA sn sc] 41)
  have hE := Blk.new w 41 #[.int .i64 15, .int .i64 a, .int .i64 b, .int .i64 n, .slice BA bn bc, .int .i64 0, .int .i64 0, .int .i64 0, .int .i64 0, .string ByteArray.empty, .string ByteArray.empty, .string ByteArray.empty, .slice SA sn sc]
  obtain ⟨w0, hw0⟩ : ∃ w0, w0 = w.alloc (.cells #[.int .i64 15, .int .i64 a, .int .i64 b, .int .i64 n, .slice BA bn bc, .int .i64 0, .int .i64 0, .int .i64 0, .int .i64 0, .string ByteArray.empty, .string ByteArray.empty, .string ByteArray.empty, .slice SA sn sc] 41) := ⟨_, rfl⟩
  rw [← hw0] at hb0 hE
  have HW0 := Lib.hid hw0
  have HB0 := Lib.hid hb0
  have HH := Lib.hid h
  have HFN := Lib.hid hf
  have hs0 := hb0.size
  obtain ⟨hF0, v, X, hX⟩ := h.below hb0
  obtain ⟨A6, cap6, rfl, hcp6, hcm6⟩ := own_shape hX.row
  obtain ⟨hs16, hd16, hdue, hbl⟩ := hf.fl _ (List.mem_of_getElem? hfi)
  dsimp only at hs16 hd16 hdue hbl
  have hiX : i < X.length := by rw [← hX.len]; exact (List.getElem?_eq_some_iff.1 hfi).1
  have hiI : (i : Int) < (X.length : Int) := by omega
  have HFI := Lib.hid hfi
  obtain ⟨g, cap, f', q', u, hv, hx, hai, m0, m1, m2, m3, m4, m5⟩ := hX.pkt hiX
  have hff := hai.symm.trans hfi
  simp only [Option.some.injEq, Prod.mk.injEq] at hff
  obtain ⟨rfl, rfl⟩ := hff
  injection hv with hv1 hv2 hv3
  subst hv1
  clear hv2 hv3
  have hby := hX.bytes _ (List.mem_of_getElem? hx)
  dsimp only at hby
  obtain ⟨uA, uc, rfl, _, _⟩ := own_shape hby
  have c6 : w0.cell? ⟨D, 563, none⟩ = some (.slice (some ⟨g, 0, none⟩) X.length cap6) := hX.cell.2.2.2
  obtain ⟨w1, hw1⟩ : ∃ w1, w1 = w0.alloc (.cells #[.int .i64 (f'.id : Int), .int .i64 (f'.src : Int), .int .i64 (f'.dst : Int), .int .i64 (f'.due : Int), .slice uA f'.bs.length uc] 48) := ⟨_, rfl⟩
  have hb1 := one_box' w0 (.cells #[.int .i64 (f'.id : Int), .int .i64 (f'.src : Int), .int .i64 (f'.dst : Int), .int .i64 (f'.due : Int), .slice uA f'.bs.length uc] 48)
  have hY := Blk.new w0 48 #[.int .i64 (f'.id : Int), .int .i64 (f'.src : Int), .int .i64 (f'.dst : Int), .int .i64 (f'.due : Int), .slice uA f'.bs.length uc]
  rw [← hw1] at hb1 hY
  have HX1 := Lib.hid (hX.below hF0 hb1)
  have HBY := Lib.hid (own_over hby hb1)
  have HB1 : Hid (Below w.heap.size w w1) := Lib.hid (hb0.trans (hb1.mono hs0))
  have HE1 := Lib.hid (hE.over hb1)
  have HY := Lib.hid hY
  have HXI := Lib.hid hx
  have HW1 := Lib.hid hw1
  have hs1 := hb1.size
  have e0 : w1.cell? ⟨w.heap.size, 0, none⟩ = some (.int .i64 15) := HE1.out.cell 0
  have e3 : w1.cell? ⟨w.heap.size, 3, none⟩ = some (.int .i64 n) := HE1.out.cell 3
  have y1 : w1.cell? ⟨w0.heap.size, 1, none⟩ = some (.int .i64 (f'.src : Int)) := hY.cell 1
  have y2 : w1.cell? ⟨w0.heap.size, 2, none⟩ = some (.int .i64 (f'.dst : Int)) := hY.cell 2
  have y3 : w1.cell? ⟨w0.heap.size, 3, none⟩ = some (.int .i64 (f'.due : Int)) := hY.cell 3
  have y4 : w1.cell? ⟨w0.heap.size, 4, none⟩ = some (.slice uA f'.bs.length uc) := hY.cell 4
  have d6 : w1.cell? ⟨D, 563, none⟩ = some (.slice (some ⟨g, 0, none⟩) X.length cap6) := HX1.out.cell.2.2.2
  have HFW : Hid (∀ k, F k → k < w.heap.size) := Lib.hid h.1
  obtain ⟨_, _, curg, hBg⟩ := own_block_lt HX1.out.row (g := g) rfl
  have HBG := Lib.hid hBg
  have HFg : Hid (F g) := Lib.hid (HX1.out.fv g rfl)
  clear hw0 hw1 hb0 hb1 hE hY hF0 hX hx hai hfi hby h hf hBg m5
  by_cases h1 : n < 1
  · clear hno
    go_enter Try.func85, Try.ntmps85
    go_upto_region 1 with fail
    rw [← HW0.out]
    go_upto_region 2 with fail
    rw [← HW1.out]
    clear m0 m1 m2 m3 m4 c6
    go_wp2
    go_ret
    exact StepR.same HH.out HB1.out
  · have h2 : n > 16 := by omega
    clear hno
    go_enter Try.func85, Try.ntmps85
    go_upto_region 1 with fail
    rw [← HW0.out]
    go_upto_region 2 with fail
    rw [← HW1.out]
    clear m0 m1 m2 m3 m4 c6
    go_wp2
    go_ret
    exact StepR.same HH.out HB1.out
set_option maxRecDepth 100000 in
set_option maxHeartbeats 3200000 in
theorem doPkt_15yes (_hc : c.Ok) (h : RNx w F c D r) (hf : RFine r) {i : Nat} {f : Flt} (hfi : r.all[i]? = some (f, false)) (a b n : Int) (BA SA : Option Addr) (bn bc sn sc : Nat) (d : Nat) (hd : n = (d : Int)) (hd1 : 1 ≤ d) (hd2 : d ≤ 16) : Calls Try.prog 85 #[.pointer (some ⟨D, 0, none⟩), .agg #[.int .i64 15, .int .i64 a, .int .i64 b, .int .i64 n, .slice BA bn bc, .int .i64 0, .int .i64 0, .int .i64 0, .int .i64 0, .string ByteArray.empty, .string ByteArray.empty, .string ByteArray.empty, .slice SA sn sc], .int .i64 (i : Int)] w (StepR w F c D (.int .i64 0) ({ r with all := r.all.set i ({ f with due := f.due + d }, false) })) := by
  have hb0 := one_box' w (.cells #[.int .i64 15, .int .i64 a, .int .i64 b, .int .i64 n, .slice BA bn bc, .int .i64 0, .int .i64 0, .int .i64 0, .int .i64 0, .string ByteArray.empty, .string ByteArray.empty, .string ByteArray.empty, .slice SA sn sc] 41)
  have hE := Blk.new w 41 #[.int .i64 15, .int .i64 a, .int .i64 b, .int .i64 n, .slice BA bn bc, .int .i64 0, .int .i64 0, .int .i64 0, .int .i64 0, .string ByteArray.empty, .string ByteArray.empty, .string ByteArray.empty, .slice SA sn sc]
  obtain ⟨w0, hw0⟩ : ∃ w0, w0 = w.alloc (.cells #[.int .i64 15, .int .i64 a, .int .i64 b, .int .i64 n, .slice BA bn bc, .int .i64 0, .int .i64 0, .int .i64 0, .int .i64 0, .string ByteArray.empty, .string ByteArray.empty, .string ByteArray.empty, .slice SA sn sc] 41) := ⟨_, rfl⟩
  rw [← hw0] at hb0 hE
  have HW0 := Lib.hid hw0
  have HB0 := Lib.hid hb0
  have HH := Lib.hid h
  have HFN := Lib.hid hf
  have hs0 := hb0.size
  obtain ⟨hF0, v, X, hX⟩ := h.below hb0
  obtain ⟨A6, cap6, rfl, hcp6, hcm6⟩ := own_shape hX.row
  obtain ⟨hs16, hd16, hdue, hbl⟩ := hf.fl _ (List.mem_of_getElem? hfi)
  dsimp only at hs16 hd16 hdue hbl
  have hiX : i < X.length := by rw [← hX.len]; exact (List.getElem?_eq_some_iff.1 hfi).1
  have hiI : (i : Int) < (X.length : Int) := by omega
  have HFI := Lib.hid hfi
  obtain ⟨g, cap, f', q', u, hv, hx, hai, m0, m1, m2, m3, m4, m5⟩ := hX.pkt hiX
  have hff := hai.symm.trans hfi
  simp only [Option.some.injEq, Prod.mk.injEq] at hff
  obtain ⟨rfl, rfl⟩ := hff
  injection hv with hv1 hv2 hv3
  subst hv1
  clear hv2 hv3
  have hby := hX.bytes _ (List.mem_of_getElem? hx)
  dsimp only at hby
  obtain ⟨uA, uc, rfl, _, _⟩ := own_shape hby
  have c6 : w0.cell? ⟨D, 563, none⟩ = some (.slice (some ⟨g, 0, none⟩) X.length cap6) := hX.cell.2.2.2
  obtain ⟨w1, hw1⟩ : ∃ w1, w1 = w0.alloc (.cells #[.int .i64 (f'.id : Int), .int .i64 (f'.src : Int), .int .i64 (f'.dst : Int), .int .i64 (f'.due : Int), .slice uA f'.bs.length uc] 48) := ⟨_, rfl⟩
  have hb1 := one_box' w0 (.cells #[.int .i64 (f'.id : Int), .int .i64 (f'.src : Int), .int .i64 (f'.dst : Int), .int .i64 (f'.due : Int), .slice uA f'.bs.length uc] 48)
  have hY := Blk.new w0 48 #[.int .i64 (f'.id : Int), .int .i64 (f'.src : Int), .int .i64 (f'.dst : Int), .int .i64 (f'.due : Int), .slice uA f'.bs.length uc]
  rw [← hw1] at hb1 hY
  have HX1 := Lib.hid (hX.below hF0 hb1)
  have HBY := Lib.hid (own_over hby hb1)
  have HB1 : Hid (Below w.heap.size w w1) := Lib.hid (hb0.trans (hb1.mono hs0))
  have HE1 := Lib.hid (hE.over hb1)
  have HY := Lib.hid hY
  have HXI := Lib.hid hx
  have HW1 := Lib.hid hw1
  have hs1 := hb1.size
  have e0 : w1.cell? ⟨w.heap.size, 0, none⟩ = some (.int .i64 15) := HE1.out.cell 0
  have e3 : w1.cell? ⟨w.heap.size, 3, none⟩ = some (.int .i64 n) := HE1.out.cell 3
  have y1 : w1.cell? ⟨w0.heap.size, 1, none⟩ = some (.int .i64 (f'.src : Int)) := hY.cell 1
  have y2 : w1.cell? ⟨w0.heap.size, 2, none⟩ = some (.int .i64 (f'.dst : Int)) := hY.cell 2
  have y3 : w1.cell? ⟨w0.heap.size, 3, none⟩ = some (.int .i64 (f'.due : Int)) := hY.cell 3
  have y4 : w1.cell? ⟨w0.heap.size, 4, none⟩ = some (.slice uA f'.bs.length uc) := hY.cell 4
  have d6 : w1.cell? ⟨D, 563, none⟩ = some (.slice (some ⟨g, 0, none⟩) X.length cap6) := HX1.out.cell.2.2.2
  have HFW : Hid (∀ k, F k → k < w.heap.size) := Lib.hid h.1
  obtain ⟨_, _, curg, hBg⟩ := own_block_lt HX1.out.row (g := g) rfl
  have HBG := Lib.hid hBg
  have HFg : Hid (F g) := Lib.hid (HX1.out.fv g rfl)
  clear hw0 hw1 hb0 hb1 hE hY hF0 hX hx hai hfi hby h hf hBg m5
  subst hd
  have hn1 : ¬ (d : Int) < 1 := by omega
  have hn2 : ¬ (d : Int) > 16 := by omega
  obtain ⟨wd, hwd⟩ : ∃ wd, wd = w1.drew := ⟨_, rfl⟩
  have q6 : wd.cell? ⟨D, 563, none⟩ = some (.slice (some ⟨g, 0, none⟩) X.length cap6) := by rw [hwd]; exact d6
  have q3 : wd.cell? ⟨w0.heap.size, 3, none⟩ = some (.int .i64 (f'.due : Int)) := by rw [hwd]; exact y3
  have r3 : wd.cell? ⟨w.heap.size, 3, none⟩ = some (.int .i64 (d : Int)) := by rw [hwd]; exact e3
  have hwr : IntKind.i64.wrap ((f'.due : Int) + (d : Int)) = (f'.due : Int) + (d : Int) := IntWalk.i64_in _ (by omega)
  have z3 : wd.cell? ⟨g, i * 6 + 3, none⟩ = some (.int .i64 (f'.due : Int)) := by
    obtain ⟨g', cap', f'', q'', u', hv, hx, hai, _, _, _, m3, _, _⟩ := HX1.out.pkt hiX
    have hff := hai.symm.trans HFI.out
    simp only [Option.some.injEq, Prod.mk.injEq] at hff
    injection hv with hv1
    injection hv1 with hv1
    injection hv1 with hv1
    rw [hwd, hv1]
    refine Eq.trans m3 ?_
    rw [hff.1]
  have zf : wd.frozen? ⟨g, i * 6 + 3, none⟩ = false := by rw [hwd]; exact HBG.out.frozen _
  obtain ⟨w2, hw2⟩ : ∃ w2, w2 = wd.setCell ⟨g, i * 6 + 3, none⟩ (.int .i64 ((f'.due : Int) + (d : Int))) := ⟨_, rfl⟩
  have HE : Hid (StepR w F c D (.int .i64 0) { r with all := r.all.set i ({ f' with due := f'.due + d }, false) } (.returned (.int .i64 0)) w2) := by
    have hXd : RN wd F c D r (.slice (some ⟨g, 0, none⟩) X.length cap6) X := by rw [hwd]; exact HX1.out.chg ((Chg.refl (fun _ => False) w1).drewN 1) fun _ _ h => h
    have h2 := hXd.setR (f' := { f' with due := f'.due + d }) (q' := false) (u' := .int .i64 ((f'.due : Int) + (d : Int))) (i := 3) HXI.out (by omega) rfl (by simp [Flt.rowR])
    rw [← hw2] at h2
    exact Lib.hid (StepR.of HFW.out (by rw [hw2, hwd]; exact ((Chg.of_below HB1.out F).drewN 1).setCell (.inl HFg.out) _) h2)
  have HWD := Lib.hid hwd
  have HW2 := Lib.hid hw2
  clear hwd hw2 hd1 hd2

  go_enter Try.func85, Try.ntmps85
  go_upto_region 1 with fail
  rw [← HW0.out]
  go_upto_region 2 with fail
  rw [← HW1.out]
  clear m0 m1 m2 m3 m4 c6

  go_upto_region 16 with fail
  refine region_tail 13 (by kernel_rfl) (by kernel_rfl) ?_
  simp only [List.take_succ_cons, List.take_zero, List.drop_succ_cons, List.drop_zero]
  rw [← HWD.out]
  clear e0 e3 y1 y2 y3 y4 d6
  repeat still_step
  refine wpStill_nil ?_
  change wpList _ _ _ _ _ wd
  go_upto_region 17 with fail
  rw [← HW2.out]
  go_wp2
  go_ret
  exact HE.out
set_option maxRecDepth 100000 in
set_option maxHeartbeats 3200000 in
theorem doPkt_16neg (_hc : c.Ok) (h : RNx w F c D r) (hf : RFine r) {i : Nat} {f : Flt} (hfi : r.all[i]? = some (f, false)) (a b n : Int) (BA SA : Option Addr) (bn bc sn sc : Nat) (hno : n < 0) : Calls Try.prog 85 #[.pointer (some ⟨D, 0, none⟩), .agg #[.int .i64 16, .int .i64 a, .int .i64 b, .int .i64 n, .slice BA bn bc, .int .i64 0, .int .i64 0, .int .i64 0, .int .i64 0, .string ByteArray.empty, .string ByteArray.empty, .string ByteArray.empty, .slice SA sn sc], .int .i64 (i : Int)] w (StepR w F c D (.int .i64 1) (r)) := by
  have hb0 := one_box' w (.cells #[.int .i64 16, .int .i64 a, .int .i64 b, .int .i64 n, .slice BA bn bc, .int .i64 0, .int .i64 0, .int .i64 0, .int .i64 0, .string ByteArray.empty, .string ByteArray.empty, .string ByteArray.empty, .slice SA sn sc] 41)
  have hE := Blk.new w 41 #[.int .i64 16, .int .i64 a, .int .i64 b, .int .i64 n, .slice BA bn bc, .int .i64 0, .int .i64 0, .int .i64 0, .int .i64 0, .string ByteArray.empty, .string ByteArray.empty, .string ByteArray.empty, .slice SA sn sc]
  obtain ⟨w0, hw0⟩ : ∃ w0, w0 = w.alloc (.cells #[.int .i64 16, .int .i64 a, .int .i64 b, .int .i64 n, .slice BA bn bc, .int .i64 0, .int .i64 0, .int .i64 0, .int .i64 0, .string ByteArray.empty, .string ByteArray.empty, .string ByteArray.empty, .slice SA sn sc] 41) := ⟨_, rfl⟩
  rw [← hw0] at hb0 hE
  have HW0 := Lib.hid hw0
  have HB0 := Lib.hid hb0
  have HH := Lib.hid h
  have HFN := Lib.hid hf
  have hs0 := hb0.size
  obtain ⟨hF0, v, X, hX⟩ := h.below hb0
  obtain ⟨A6, cap6, rfl, hcp6, hcm6⟩ := own_shape hX.row
  obtain ⟨hs16, hd16, hdue, hbl⟩ := hf.fl _ (List.mem_of_getElem? hfi)
  dsimp only at hs16 hd16 hdue hbl
  have hiX : i < X.length := by rw [← hX.len]; exact (List.getElem?_eq_some_iff.1 hfi).1
  have hiI : (i : Int) < (X.length : Int) := by omega
  have HFI := Lib.hid hfi
  obtain ⟨g, cap, f', q', u, hv, hx, hai, m0, m1, m2, m3, m4, m5⟩ := hX.pkt hiX
  have hff := hai.symm.trans hfi
  simp only [Option.some.injEq, Prod.mk.injEq] at hff
  obtain ⟨rfl, rfl⟩ := hff
  injection hv with hv1 hv2 hv3
  subst hv1
  clear hv2 hv3
  have hby := hX.bytes _ (List.mem_of_getElem? hx)
  dsimp only at hby
  obtain ⟨uA, uc, rfl, _, _⟩ := own_shape hby
  have c6 : w0.cell? ⟨D, 563, none⟩ = some (.slice (some ⟨g, 0, none⟩) X.length cap6) := hX.cell.2.2.2
  obtain ⟨w1, hw1⟩ : ∃ w1, w1 = w0.alloc (.cells #[.int .i64 (f'.id : Int), .int .i64 (f'.src : Int), .int .i64 (f'.dst : Int), .int .i64 (f'.due : Int), .slice uA f'.bs.length uc] 48) := ⟨_, rfl⟩
  have hb1 := one_box' w0 (.cells #[.int .i64 (f'.id : Int), .int .i64 (f'.src : Int), .int .i64 (f'.dst : Int), .int .i64 (f'.due : Int), .slice uA f'.bs.length uc] 48)
  have hY := Blk.new w0 48 #[.int .i64 (f'.id : Int), .int .i64 (f'.src : Int), .int .i64 (f'.dst : Int), .int .i64 (f'.due : Int), .slice uA f'.bs.length uc]
  rw [← hw1] at hb1 hY
  have HX1 := Lib.hid (hX.below hF0 hb1)
  have HBY := Lib.hid (own_over hby hb1)
  have HB1 : Hid (Below w.heap.size w w1) := Lib.hid (hb0.trans (hb1.mono hs0))
  have HE1 := Lib.hid (hE.over hb1)
  have HY := Lib.hid hY
  have HXI := Lib.hid hx
  have HW1 := Lib.hid hw1
  have hs1 := hb1.size
  have e0 : w1.cell? ⟨w.heap.size, 0, none⟩ = some (.int .i64 16) := HE1.out.cell 0
  have e3 : w1.cell? ⟨w.heap.size, 3, none⟩ = some (.int .i64 n) := HE1.out.cell 3
  have y1 : w1.cell? ⟨w0.heap.size, 1, none⟩ = some (.int .i64 (f'.src : Int)) := hY.cell 1
  have y2 : w1.cell? ⟨w0.heap.size, 2, none⟩ = some (.int .i64 (f'.dst : Int)) := hY.cell 2
  have y3 : w1.cell? ⟨w0.heap.size, 3, none⟩ = some (.int .i64 (f'.due : Int)) := hY.cell 3
  have y4 : w1.cell? ⟨w0.heap.size, 4, none⟩ = some (.slice uA f'.bs.length uc) := hY.cell 4
  have d6 : w1.cell? ⟨D, 563, none⟩ = some (.slice (some ⟨g, 0, none⟩) X.length cap6) := HX1.out.cell.2.2.2
  have HFW : Hid (∀ k, F k → k < w.heap.size) := Lib.hid h.1
  obtain ⟨_, _, curg, hBg⟩ := own_block_lt HX1.out.row (g := g) rfl
  have HBG := Lib.hid hBg
  have HFg : Hid (F g) := Lib.hid (HX1.out.fv g rfl)
  clear hw0 hw1 hb0 hb1 hE hY hF0 hX hx hai hfi hby h hf hBg m5
  go_enter Try.func85, Try.ntmps85
  go_upto_region 1 with fail
  rw [← HW0.out]
  go_upto_region 2 with fail
  rw [← HW1.out]
  clear m0 m1 m2 m3 m4 c6

  go_wp2
  go_ret
  exact StepR.same HH.out HB1.out
set_option maxRecDepth 100000 in
set_option maxHeartbeats 3200000 in
theorem doPkt_16big (_hc : c.Ok) (h : RNx w F c D r) (hf : RFine r) {i : Nat} {f : Flt} (hfi : r.all[i]? = some (f, false)) (a b n : Int) (BA SA : Option Addr) (bn bc sn sc : Nat) (q : Nat) (hq : n = (q : Int)) (hq2 : q ≤ 9223372036854775807) (hno : f.bs.length ≤ q / 8) : Calls Try.prog 85 #[.pointer (some ⟨D, 0, none⟩), .agg #[.int .i64 16, .int .i64 a, .int .i64 b, .int .i64 n, .slice BA bn bc, .int .i64 0, .int .i64 0, .int .i64 0, .int .i64 0, .string ByteArray.empty, .string ByteArray.empty, .string ByteArray.empty, .slice SA sn sc], .int .i64 (i : Int)] w (StepR w F c D (.int .i64 1) (r)) := by
  have hb0 := one_box' w (.cells #[.int .i64 16, .int .i64 a, .int .i64 b, .int .i64 n, .slice BA bn bc, .int .i64 0, .int .i64 0, .int .i64 0, .int .i64 0, .string ByteArray.empty, .string ByteArray.empty, .string ByteArray.empty, .slice SA sn sc] 41)
  have hE := Blk.new w 41 #[.int .i64 16, .int .i64 a, .int .i64 b, .int .i64 n, .slice BA bn bc, .int .i64 0, .int .i64 0, .int .i64 0, .int .i64 0, .string ByteArray.empty, .string ByteArray.empty, .string ByteArray.empty, .slice SA sn sc]
  obtain ⟨w0, hw0⟩ : ∃ w0, w0 = w.alloc (.cells #[.int .i64 16, .int .i64 a, .int .i64 b, .int .i64 n, .slice BA bn bc, .int .i64 0, .int .i64 0, .int .i64 0, .int .i64 0, .string ByteArray.empty, .string ByteArray.empty, .string ByteArray.empty, .slice SA sn sc] 41) := ⟨_, rfl⟩
  rw [← hw0] at hb0 hE
  have HW0 := Lib.hid hw0
  have HB0 := Lib.hid hb0
  have HH := Lib.hid h
  have HFN := Lib.hid hf
  have hs0 := hb0.size
  obtain ⟨hF0, v, X, hX⟩ := h.below hb0
  obtain ⟨A6, cap6, rfl, hcp6, hcm6⟩ := own_shape hX.row
  obtain ⟨hs16, hd16, hdue, hbl⟩ := hf.fl _ (List.mem_of_getElem? hfi)
  dsimp only at hs16 hd16 hdue hbl
  have hiX : i < X.length := by rw [← hX.len]; exact (List.getElem?_eq_some_iff.1 hfi).1
  have hiI : (i : Int) < (X.length : Int) := by omega
  have HFI := Lib.hid hfi
  obtain ⟨g, cap, f', q', u, hv, hx, hai, m0, m1, m2, m3, m4, m5⟩ := hX.pkt hiX
  have hff := hai.symm.trans hfi
  simp only [Option.some.injEq, Prod.mk.injEq] at hff
  obtain ⟨rfl, rfl⟩ := hff
  injection hv with hv1 hv2 hv3
  subst hv1
  clear hv2 hv3
  have hby := hX.bytes _ (List.mem_of_getElem? hx)
  dsimp only at hby
  obtain ⟨uA, uc, rfl, _, _⟩ := own_shape hby
  have c6 : w0.cell? ⟨D, 563, none⟩ = some (.slice (some ⟨g, 0, none⟩) X.length cap6) := hX.cell.2.2.2
  obtain ⟨w1, hw1⟩ : ∃ w1, w1 = w0.alloc (.cells #[.int .i64 (f'.id : Int), .int .i64 (f'.src : Int), .int .i64 (f'.dst : Int), .int .i64 (f'.due : Int), .slice uA f'.bs.length uc] 48) := ⟨_, rfl⟩
  have hb1 := one_box' w0 (.cells #[.int .i64 (f'.id : Int), .int .i64 (f'.src : Int), .int .i64 (f'.dst : Int), .int .i64 (f'.due : Int), .slice uA f'.bs.length uc] 48)
  have hY := Blk.new w0 48 #[.int .i64 (f'.id : Int), .int .i64 (f'.src : Int), .int .i64 (f'.dst : Int), .int .i64 (f'.due : Int), .slice uA f'.bs.length uc]
  rw [← hw1] at hb1 hY
  have HX1 := Lib.hid (hX.below hF0 hb1)
  have HBY := Lib.hid (own_over hby hb1)
  have HB1 : Hid (Below w.heap.size w w1) := Lib.hid (hb0.trans (hb1.mono hs0))
  have HE1 := Lib.hid (hE.over hb1)
  have HY := Lib.hid hY
  have HXI := Lib.hid hx
  have HW1 := Lib.hid hw1
  have hs1 := hb1.size
  have e0 : w1.cell? ⟨w.heap.size, 0, none⟩ = some (.int .i64 16) := HE1.out.cell 0
  have e3 : w1.cell? ⟨w.heap.size, 3, none⟩ = some (.int .i64 n) := HE1.out.cell 3
  have y1 : w1.cell? ⟨w0.heap.size, 1, none⟩ = some (.int .i64 (f'.src : Int)) := hY.cell 1
  have y2 : w1.cell? ⟨w0.heap.size, 2, none⟩ = some (.int .i64 (f'.dst : Int)) := hY.cell 2
  have y3 : w1.cell? ⟨w0.heap.size, 3, none⟩ = some (.int .i64 (f'.due : Int)) := hY.cell 3
  have y4 : w1.cell? ⟨w0.heap.size, 4, none⟩ = some (.slice uA f'.bs.length uc) := hY.cell 4
  have d6 : w1.cell? ⟨D, 563, none⟩ = some (.slice (some ⟨g, 0, none⟩) X.length cap6) := HX1.out.cell.2.2.2
  have HFW : Hid (∀ k, F k → k < w.heap.size) := Lib.hid h.1
  obtain ⟨_, _, curg, hBg⟩ := own_block_lt HX1.out.row (g := g) rfl
  have HBG := Lib.hid hBg
  have HFg : Hid (F g) := Lib.hid (HX1.out.fv g rfl)
  clear hw0 hw1 hb0 hb1 hE hY hF0 hX hx hai hfi hby h hf hBg m5
  subst hq
  obtain ⟨q8, hq8⟩ : ∃ q8, q8 = q / 8 := ⟨_, rfl⟩
  rw [← hq8] at hno
  have e8 : (q : Int) / 8 = (q8 : Int) := by omega
  have hnI : (f'.bs.length : Int) ≤ (q8 : Int) := by omega
  have hw8 : IntKind.i64.wrap (q8 : Int) = (q8 : Int) := IntWalk.i64_in _ (by omega)
  have hn0 : ¬ (q : Int) < 0 := by omega
  clear hq8 hq2 hno

  go_enter Try.func85, Try.ntmps85
  go_upto_region 1 with fail
  rw [← HW0.out]
  go_upto_region 2 with fail
  rw [← HW1.out]
  clear m0 m1 m2 m3 m4 c6

  go_wp2
  go_ret
  exact StepR.same HH.out HB1.out
end Go.Proofs.Ytgfhmfhhobhojaa
