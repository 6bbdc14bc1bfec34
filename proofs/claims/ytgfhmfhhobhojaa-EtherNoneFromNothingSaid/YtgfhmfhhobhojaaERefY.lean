/-
  The document's network: doPacket's turned bit.
-/
import Derived.Test.YtgfhmfhhobhojaaERefX
namespace Go.Proofs.Ytgfhmfhhobhojaa
open Go.ChangeShapes Go.WideShapes Go.ChangeAt Go.RowKit
variable {w : World} {F : Nat → Prop} {c : ECfg} {D : Nat} {r : RV}
set_option maxRecDepth 100000 in
set_option maxHeartbeats 3200000 in
theorem doPkt_16yes (_hc : c.Ok) (h : RNx w F c D r) (hf : RFine r) {i : Nat} {f : Flt} (hfi : r.all[i]? = some (f, false)) (a b n : Int) (BA SA : Option Addr) (bn bc sn sc : Nat) (q : Nat) (hq : n = (q : Int)) (hq2 : q ≤ 9223372036854775807) (hno : q / 8 < f.bs.length) : Calls Try.prog 85 #[.pointer (some ⟨D, 0, none⟩), .agg #[.int .i64 16, .int .i64 a, .int .i64 b, .int .i64 n, .slice BA bn bc, .int .i64 0, .int .i64 0, .int .i64 0, .int .i64 0, .string ByteArray.empty, .string ByteArray.empty, .string ByteArray.empty, .slice SA sn sc], .int .i64 (i : Int)] w (StepR w F c D (.int .i64 0) ({ r with all := r.all.set i (flipF f q, false) })) := by
  have hb0 := one_box' w (.cells #[.int .i64 16, .int .i64 a, .int .i64 b, .int .i64 n, .slice BA bn bc, .int .i64 0, .int .i64 0, .int .i64 0, .int .i64 0, .string ByteArray.empty, .string ByteArray.empty, .string ByteArray.empty, .slice SA sn sc] 41)
  have hE := Blk.new w 41 #[.int .i64 16, .int .i64 a, .int .i64 b, .int .i64 n, .slice BA bn bc, .int .i64 0, .int .i64 0, .int .i64 0, .int .i64 0, .string ByteArray.empty, .string ByteArray.empty, .string ByteArray.empty, .slice SA sn sc]
  obtain ⟨w0, hw0⟩ : ∃ w0, w0 = w.alloc (.cells #[.int .i64 16, .int .i64 a, .int .i64 b, .int .i64 n, .slice BA bn bc, .int .i64 0, .int .i64 0, .int .i64 0, .int .i64 0, .string ByteArray.empty, .string ByteArray.empty, .string ByteArray.empty, .slice SA sn sc] 41) := ⟨_, rfl⟩
  rw [← hw0] at hb0 hE
  have HW0 := Lib.hid hw0
  have HB0 := Lib.hid hb0
  have HH := Lib.hid h
  have HFN := Lib.hid hf
  have hs0 := hb0.size
  obtain ⟨hF0, v, X, hX⟩ := h.below hb0
  obtain ⟨A6, cap6, rfl, hcp6, hcm6⟩ := own_shape hX.row
  obtain ⟨hs16, hd16, hdue, hbl⟩ := hf.fl _ (List.mem_of_getElem? hfi)
  dsimp only at hs16 hd16 hdue hbl
  have hiX : i < X.length := by rw [← hX.len]; exact (List.getElem?_eq_some_iff.1 hfi).1
  have hiI : (i : Int) < (X.length : Int) := by omega
  have HFI := Lib.hid hfi
  obtain ⟨g, cap, f', q', u, hv, hx, hai, m0, m1, m2, m3, m4, m5⟩ := hX.pkt hiX
  have hff := hai.symm.trans hfi
  simp only [Option.some.injEq, Prod.mk.injEq] at hff
  obtain ⟨rfl, rfl⟩ := hff
  injection hv with hv1 hv2 hv3
  subst hv1
  clear hv2 hv3
  have hby := hX.bytes _ (List.mem_of_getElem? hx)
  dsimp only at hby
  obtain ⟨uA, uc, rfl, _, _⟩ := own_shape hby
  have c6 : w0.cell? ⟨D, 563, none⟩ = some (.slice (some ⟨g, 0, none⟩) X.length cap6) := hX.cell.2.2.2
  obtain ⟨w1, hw1⟩ : ∃ w1, w1 = w0.alloc (.cells #[.int .i64 (f'.id : Int), .int .i64 (f'.src : Int), .int .i64 (f'.dst : Int), .int .i64 (f'.due : Int), .slice uA f'.bs.length uc] 48) := ⟨_, rfl⟩
  have hb1 := one_box' w0 (.cells #[.int .i64 (f'.id : Int), .int .i64 (f'.src : Int), .int .i64 (f'.dst : Int), .int .i64 (f'.due : Int), .slice uA f'.bs.length uc] 48)
  have hY := Blk.new w0 48 #[.int .i64 (f'.id : Int), .int .i64 (f'.src : Int), .int .i64 (f'.dst : Int), .int .i64 (f'.due : Int), .slice uA f'.bs.length uc]
  rw [← hw1] at hb1 hY
  have HX1 := Lib.hid (hX.below hF0 hb1)
  have HBY := Lib.hid (own_over hby hb1)
  have HB1 : Hid (Below w.heap.size w w1) := Lib.hid (hb0.trans (hb1.mono hs0))
  have HE1 := Lib.hid (hE.over hb1)
  have HY := Lib.hid hY
  have HXI := Lib.hid hx
  have HW1 := Lib.hid hw1
  have hs1 := hb1.size
  have e0 : w1.cell? ⟨w.heap.size, 0, none⟩ = some (.int .i64 16) := HE1.out.cell 0
  have e3 : w1.cell? ⟨w.heap.size, 3, none⟩ = some (.int .i64 n) := HE1.out.cell 3
  have y1 : w1.cell? ⟨w0.heap.size, 1, none⟩ = some (.int .i64 (f'.src : Int)) := hY.cell 1
  have y2 : w1.cell? ⟨w0.heap.size, 2, none⟩ = some (.int .i64 (f'.dst : Int)) := hY.cell 2
  have y3 : w1.cell? ⟨w0.heap.size, 3, none⟩ = some (.int .i64 (f'.due : Int)) := hY.cell 3
  have y4 : w1.cell? ⟨w0.heap.size, 4, none⟩ = some (.slice uA f'.bs.length uc) := hY.cell 4
  have d6 : w1.cell? ⟨D, 563, none⟩ = some (.slice (some ⟨g, 0, none⟩) X.length cap6) := HX1.out.cell.2.2.2
  have HFW : Hid (∀ k, F k → k < w.heap.size) := Lib.hid h.1
  obtain ⟨_, _, curg, hBg⟩ := own_block_lt HX1.out.row (g := g) rfl
  have HBG := Lib.hid hBg
  have HFg : Hid (F g) := Lib.hid (HX1.out.fv g rfl)
  clear hw0 hw1 hb0 hb1 hE hY hF0 hX hx hai hfi hby h hf hBg m5
  subst hq
  obtain ⟨q8, hq8⟩ : ∃ q8, q8 = q / 8 := ⟨_, rfl⟩
  rw [← hq8] at hno
  have HQ8 := Lib.hid hq8
  obtain ⟨q1, hq1⟩ : ∃ q1, q1 = q % 8 := ⟨_, rfl⟩
  have HQ1 := Lib.hid hq1
  have e8 : (q : Int) / 8 = (q8 : Int) := by omega
  have e8' : (q : Int).tdiv 8 = (q8 : Int) := by rw [Int.tdiv_eq_ediv_of_nonneg (by omega)]; omega
  have e1 : (q : Int) % 8 = (q1 : Int) := by omega
  have e1' : (q : Int).tmod 8 = (q1 : Int) := by rw [Int.tmod_eq_emod_of_nonneg (by omega)]; omega
  have hnI : ¬ (f'.bs.length : Int) ≤ (q8 : Int) := by omega
  have hnL : (q8 : Int) < (f'.bs.length : Int) := by omega
  have hw8 : IntKind.i64.wrap (q8 : Int) = (q8 : Int) := IntWalk.i64_in _ (by omega)
  have hw1 : IntKind.i64.wrap (q1 : Int) = (q1 : Int) := IntWalk.i64_in _ (by omega)
  have hn0 : ¬ (q : Int) < 0 := by omega
  have HNO := Lib.hid hno
  obtain ⟨b8, cb8, cur8, huv, _, hB8, _, _, _, _⟩ := own_parts HBY.out (by omega)
  injection huv with hu1 hu2 hu3
  subst hu1
  clear hu2 hu3
  obtain ⟨cb, hcb⟩ : ∃ x, f'.bs[q8]? = some x := ⟨f'.bs[q8], List.getElem?_eq_getElem hno⟩
  have mb : w1.cell? ⟨b8, q8, none⟩ = some (.int .u8 (cb.toNat : Int)) := by
    have hr := HBY.out.cells (g := b8) rfl q8 (.int .u8 (cb.toNat : Int)) (by rw [bvs, List.getElem?_map, hcb]; rfl)
    rw [addr_add, Nat.zero_add] at hr
    exact hr
  have hNB : Hid (b8 ≠ w.heap.size ∧ b8 ≠ w0.heap.size ∧ F b8) := Lib.hid ⟨hB8.ne_ HE1.out (by decide), hB8.ne_ HY.out (by decide), HX1.out.fx _ (List.mem_of_getElem? HXI.out) b8 rfl⟩
  obtain ⟨wd, hwd⟩ : ∃ wd, wd = w1.drew := ⟨_, rfl⟩
  have hS : wd.cell? ⟨w.heap.size, 3, none⟩ = some (.int .i64 (q : Int)) ∧ wd.cell? ⟨w0.heap.size, 4, none⟩ = some (.slice (some ⟨b8, 0, none⟩) f'.bs.length uc) := by rw [hwd]; exact ⟨e3, y4⟩
  have mbd : wd.cell? ⟨b8, q8, none⟩ = some (.int .u8 (cb.toNat : Int)) := by rw [hwd]; exact mb
  have mfd : wd.frozen? ⟨b8, q8, none⟩ = false := by rw [hwd]; exact hB8.frozen _
  have HTU := Lib.hid (turned_any (w := wd) cb q1 (by omega))
  obtain ⟨y, hy⟩ : ∃ y, y = flipV cb q1 := ⟨_, rfl⟩
  rw [← hy] at HTU
  obtain ⟨w2, hw2⟩ : ∃ w2, w2 = wd.setCell ⟨b8, q8, none⟩ (.int .u8 (y.toNat : Int)) := ⟨_, rfl⟩
  have HS2 : Hid (w2.cell? ⟨w.heap.size, 3, none⟩ = some (.int .i64 (q : Int)) ∧ w2.cell? ⟨w0.heap.size, 4, none⟩ = some (.slice (some ⟨b8, 0, none⟩) f'.bs.length uc)) := by
    rw [hw2]
    exact Lib.hid ⟨(World.cell?_setCell_far _ _ _ _ hNB.out.1).trans hS.1, (World.cell?_setCell_far _ _ _ _ hNB.out.2.1).trans hS.2⟩
  have HE : Hid (StepR w F c D (.int .i64 0) { r with all := r.all.set i (flipF f' q, false) } (.returned (.int .i64 0)) w2) := by
    have hXd : RN wd F c D r (.slice (some ⟨g, 0, none⟩) X.length cap6) X := by rw [hwd]; exact HX1.out.chg ((Chg.refl (fun _ => False) w1).drewN 1) fun _ _ h => h
    have h2 := hXd.setB (y := y) (i := q8) HXI.out hno
    rw [← hw2] at h2
    have hfl : ({ f' with bs := f'.bs.set q8 y } : Flt) = flipF f' q := by
      unfold flipF
      rw [← hq8, ← hq1, hy, List.getD_eq_getElem?_getD, hcb]
      rfl
    rw [hfl] at h2
    exact Lib.hid (StepR.of HFW.out (by rw [hw2, hwd]; exact ((Chg.of_below HB1.out F).drewN 1).setCell (.inl hNB.out.2.2) _) h2)
  have HWD := Lib.hid hwd
  have HW2 := Lib.hid hw2
  clear hwd hw2 hq8 hq1 hq2 hy hcb hB8 mb

  go_enter Try.func85, Try.ntmps85
  go_upto_region 1 with fail
  rw [← HW0.out]
  go_upto_region 2 with fail
  rw [← HW1.out]
  clear m0 m1 m2 m3 m4 c6

  go_upto_region 5 with fail
  clear e0 e3 y1 y2 y3 y4 d6
  refine wp_region_held_drew (S := (fun w' => w'.cell? ⟨w.heap.size, 3, none⟩ = some (.int .i64 (q : Int)) ∧ w'.cell? ⟨w0.heap.size, 4, none⟩ = some (.slice (some ⟨b8, 0, none⟩) f'.bs.length uc))) (by kernel_rfl) (by rw [← HWD.out]; exact hS) (fun hHeld => ?_)
  rw [← HWD.out] at hHeld ⊢
  refine wpAnyH_take (i := 0) (oi := ?oi0a) (v := ?v0a) ?hi0a (by kernel_rfl) (by kernel_rfl) (by kernel_rfl) ?hq0a ?hy0a (by assumption) ?rest0a
  case hi0a => (simp only [List.getElem?_toArray, List.getElem?_cons_zero]; rfl)
  case hy0a => (refine Or.inl ⟨by rfl, ?_⟩; intro w hSw; (try dsimp only at hSw); go_simp; try with_reducible rfl)
  case hq0a => exact fun _ _ _ h => h
  try simp only [Act.put, List.setIfInBounds_toArray, List.set_cons_zero, List.set_cons_succ]
  refine wpAnyH_take (i := 1) (oi := ?oi1a) (v := ?v1a) ?hi1a (by kernel_rfl) (by kernel_rfl) (by kernel_rfl) ?hq1a ?hy1a (by assumption) ?rest1a
  case hi1a => (simp only [List.getElem?_toArray, List.getElem?_cons_zero, List.getElem?_cons_succ]; rfl)
  case hy1a => (refine Or.inl ⟨by rfl, ?_⟩; intro w hSw; (try dsimp only at hSw); go_simp; try with_reducible rfl)
  case hq1a => exact fun _ _ _ h => h
  try simp only [Act.put, List.setIfInBounds_toArray, List.set_cons_zero, List.set_cons_succ]
  refine wpAnyH_take (i := 2) (oi := ?oi2a) (v := ?v2a) ?hi2a (by kernel_rfl) (by kernel_rfl) (by kernel_rfl) ?hq2a ?hy2a (by assumption) ?rest2a
  case hi2a => (simp only [List.getElem?_toArray, List.getElem?_cons_zero, List.getElem?_cons_succ]; rfl)
  case hy2a => (refine Or.inl ⟨by rfl, ?_⟩; intro w hSw; (try dsimp only at hSw); go_simp; try with_reducible rfl)
  case hq2a => exact fun _ _ _ h => h
  try simp only [Act.put, List.setIfInBounds_toArray, List.set_cons_zero, List.set_cons_succ]
  refine wpAnyH_take (i := 3) (oi := ?oi3a) (v := ?v3a) ?hi3a (by kernel_rfl) (by kernel_rfl) (by kernel_rfl) ?hq3a ?hy3a (by assumption) ?rest3a
  case hi3a => (simp only [List.getElem?_toArray, List.getElem?_cons_zero, List.getElem?_cons_succ]; rfl)
  case hy3a => (refine Or.inl ⟨by rfl, ?_⟩; intro w hSw; (try dsimp only at hSw); go_simp; try with_reducible rfl)
  case hq3a => exact fun _ _ _ h => h
  try simp only [Act.put, List.setIfInBounds_toArray, List.set_cons_zero, List.set_cons_succ]
  refine wpAnyH_take (i := 4) (oi := ?oi4a) (v := ?v4a) ?hi4a (by kernel_rfl) (by kernel_rfl) (by kernel_rfl) ?hq4a ?hy4a (by assumption) ?rest4a
  case hi4a => (simp only [List.getElem?_toArray, List.getElem?_cons_zero, List.getElem?_cons_succ]; rfl)
  case hy4a => (refine Or.inl ⟨by rfl, ?_⟩; intro w hSw; (try dsimp only at hSw); go_simp; try with_reducible rfl)
  case hq4a => exact fun _ _ _ h => h
  try simp only [Act.put, List.setIfInBounds_toArray, List.set_cons_zero, List.set_cons_succ]
  refine wpAnyH_take (i := 5) (oi := ?oi5a) (v := ?v5a) ?hi5a (by kernel_rfl) (by kernel_rfl) (by kernel_rfl) ?hq5a ?hy5a (by assumption) ?rest5a
  case hi5a => (simp only [List.getElem?_toArray, List.getElem?_cons_zero, List.getElem?_cons_succ]; rfl)
  case hy5a => (refine Or.inl ⟨by rfl, ?_⟩; intro w hSw; (try dsimp only at hSw); go_simp; try with_reducible rfl)
  case hq5a => exact fun _ _ _ h => h
  try simp only [Act.put, List.setIfInBounds_toArray, List.set_cons_zero, List.set_cons_succ]
  refine wpAnyH_take (i := 6) (oi := ?oi6a) (v := ?v6a) ?hi6a (by kernel_rfl) (by kernel_rfl) (by kernel_rfl) ?hq6a ?hy6a (by assumption) ?rest6a
  case hi6a => (simp only [List.getElem?_toArray, List.getElem?_cons_zero, List.getElem?_cons_succ]; rfl)
  case hy6a => (refine Or.inl ⟨by rfl, ?_⟩; intro w hSw; (try dsimp only at hSw); go_simp; try with_reducible rfl)
  case hq6a => exact fun _ _ _ h => h
  try simp only [Act.put, List.setIfInBounds_toArray, List.set_cons_zero, List.set_cons_succ]
  refine wpAnyH_take (i := 7) (oi := ?oi7a) (v := ?v7a) ?hi7a (by kernel_rfl) (by kernel_rfl) (by kernel_rfl) ?hq7a ?hy7a (by assumption) ?rest7a
  case hi7a => (simp only [List.getElem?_toArray, List.getElem?_cons_zero, List.getElem?_cons_succ]; rfl)
  case hy7a => (refine Or.inl ⟨by rfl, ?_⟩; intro w hSw; (try dsimp only at hSw); go_simp; try with_reducible rfl)
  case hq7a => exact fun _ _ _ h => h
  try simp only [Act.put, List.setIfInBounds_toArray, List.set_cons_zero, List.set_cons_succ]
  refine wpAnyH_take (i := 8) (oi := ?oi8a) (v := ?v8a) ?hi8a (by kernel_rfl) (by kernel_rfl) (by kernel_rfl) ?hq8a ?hy8a (by assumption) ?rest8a
  case hi8a => (simp only [List.getElem?_toArray, List.getElem?_cons_zero, List.getElem?_cons_succ]; rfl)
  case hy8a => (refine Or.inl ⟨by rfl, ?_⟩; intro w hSw; (try dsimp only at hSw); go_simp; try with_reducible rfl)
  case hq8a => exact fun _ _ _ h => h
  try simp only [Act.put, List.setIfInBounds_toArray, List.set_cons_zero, List.set_cons_succ]
  refine wpAnyH_take (i := 9) (oi := ?oi9a) (v := ?v9a) ?hi9a (by kernel_rfl) (by kernel_rfl) (by kernel_rfl) ?hq9a ?hy9a (by assumption) ?rest9a
  case hi9a => (simp only [List.getElem?_toArray, List.getElem?_cons_zero, List.getElem?_cons_succ]; rfl)
  case hy9a => (refine Or.inl ⟨by rfl, ?_⟩; intro w hSw; (try dsimp only at hSw); go_simp; try with_reducible rfl)
  case hq9a => exact fun _ _ _ h => h
  try simp only [Act.put, List.setIfInBounds_toArray, List.set_cons_zero, List.set_cons_succ]
  refine wpAnyH_take (i := 10) (oi := ?oi10a) (v := ?v10a) ?hi10a (by kernel_rfl) (by kernel_rfl) (by kernel_rfl) ?hq10a ?hy10a (by assumption) ?rest10a
  case hi10a => (simp only [List.getElem?_toArray, List.getElem?_cons_zero, List.getElem?_cons_succ]; rfl)
  case hy10a => (refine Or.inl ⟨by rfl, ?_⟩; intro w hSw; (try dsimp only at hSw); go_simp; try with_reducible rfl)
  case hq10a => exact fun _ _ _ h => h
  try simp only [Act.put, List.setIfInBounds_toArray, List.set_cons_zero, List.set_cons_succ]
  refine wpAnyH_take (i := 12) (oi := ?oi12a) (v := ?v12a) ?hi12a (by kernel_rfl) (by kernel_rfl) (by kernel_rfl) ?hq12a ?hy12a (by assumption) ?rest12a
  case hi12a => (simp only [List.getElem?_toArray, List.getElem?_cons_zero, List.getElem?_cons_succ]; rfl)
  case hy12a => (refine Or.inl ⟨by rfl, ?_⟩; intro w hSw; (try dsimp only at hSw); go_simp; try with_reducible rfl)
  case hq12a => exact fun _ _ _ h => h
  try simp only [Act.put, List.setIfInBounds_toArray, List.set_cons_zero, List.set_cons_succ]
  refine wpAnyH_take (i := 13) (oi := ?oi13a) (v := ?v13a) ?hi13a (by kernel_rfl) (by kernel_rfl) (by kernel_rfl) ?hq13a ?hy13a (by assumption) ?rest13a
  case hi13a => (simp only [List.getElem?_toArray, List.getElem?_cons_zero, List.getElem?_cons_succ]; rfl)
  case hy13a => (refine Or.inl ⟨by rfl, ?_⟩; intro w hSw; (try dsimp only at hSw); go_simp; try with_reducible rfl)
  case hq13a => exact fun _ _ _ h => h
  try simp only [Act.put, List.setIfInBounds_toArray, List.set_cons_zero, List.set_cons_succ]
  refine wpAnyH_take (i := 14) (oi := ?oi14a) (v := ?v14a) ?hi14a (by kernel_rfl) (by kernel_rfl) (by kernel_rfl) ?hq14a ?hy14a (by assumption) ?rest14a
  case hi14a => (simp only [List.getElem?_toArray, List.getElem?_cons_zero, List.getElem?_cons_succ]; rfl)
  case hy14a => (refine Or.inl ⟨by rfl, ?_⟩; intro w hSw; (try dsimp only at hSw); go_simp; try with_reducible rfl)
  case hq14a => exact fun _ _ _ h => h
  try simp only [Act.put, List.setIfInBounds_toArray, List.set_cons_zero, List.set_cons_succ]
  refine wpAnyH_ready (rs := [11]) (by kernel_rfl) (by simp) ?_
  refine AllReadyH.cons (o := ?o11p0) ?ho11p0 (fun K hK => ?st11p0) ?mo11p0
  case ho11p0 => (simp only [List.getElem?_toArray, List.getElem?_cons_zero, List.getElem?_cons_succ]; rfl)
  · skip
    go_simp
    refine hK.out _ _ hS (fun hHeld1 => ?_)
    clear hK K
    try simp only [Act.put, List.setIfInBounds_toArray, List.set_cons_zero, List.set_cons_succ]
    refine wpAnyH_ready (rs := [15]) (by kernel_rfl) (by simp) ?_
    refine AllReadyH.cons (o := ?o15p1) ?ho15p1 (fun K hK => ?st15p1) ?mo15p1
    case ho15p1 => (simp only [List.getElem?_toArray, List.getElem?_cons_zero, List.getElem?_cons_succ]; rfl)
    · skip
      go_simp
      refine HTU.out.mono ?_
      rintro _ _ ⟨rfl, rfl⟩
      go_simp
      refine hK.out _ _ hS (fun hHeld2 => ?_)
      clear hK K
      try simp only [Act.put, List.setIfInBounds_toArray, List.set_cons_zero, List.set_cons_succ]
      refine wpAnyH_take (i := 16) (oi := ?oi16b) (v := ?v16b) ?hi16b (by kernel_rfl) (by kernel_rfl) (by kernel_rfl) ?hq16b ?hy16b (by assumption) ?rest16b
      case hi16b => (simp only [List.getElem?_toArray, List.getElem?_cons_zero, List.getElem?_cons_succ]; rfl)
      case hy16b => (refine Or.inl ⟨by rfl, ?_⟩; intro w hSw; (try dsimp only at hSw); go_simp; try with_reducible rfl)
      case hq16b => exact fun _ _ _ h => h
      try simp only [Act.put, List.setIfInBounds_toArray, List.set_cons_zero, List.set_cons_succ]
      refine wpAnyH_ready (rs := [17]) (by kernel_rfl) (by simp) ?_
      refine AllReadyH.cons (o := ?o17p2) ?ho17p2 (fun K hK => ?st17p2) ?mo17p2
      case ho17p2 => (simp only [List.getElem?_toArray, List.getElem?_cons_zero, List.getElem?_cons_succ]; rfl)
      · skip
        go_simp
        rw [← HW2.out]
        refine hK.out _ _ HS2.out (fun hHeld3 => ?_)
        clear hK K
        try simp only [Act.put, List.setIfInBounds_toArray, List.set_cons_zero, List.set_cons_succ]
        refine wpAnyH_done (by kernel_rfl) ?_ _
        clear mbd mfd
        go_wp2
        go_ret
        exact HE.out
      · exact AllReadyH.nil
    · exact AllReadyH.nil
  · exact AllReadyH.nil
end Go.Proofs.Ytgfhmfhhobhojaa
