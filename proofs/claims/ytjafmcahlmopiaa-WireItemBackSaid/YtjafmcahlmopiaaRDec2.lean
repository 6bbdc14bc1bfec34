/-
  The document's DecodeItem: a slot; any text.
-/
import Derived.Test.YtjafmcahlmopiaaRDec
namespace Go.Proofs.Ytjafmcahlmopiaa
open Go.RowKit

set_option maxRecDepth 100000 in
set_option maxHeartbeats 1600000 in
theorem RDecodeItem_2 (A : Option Addr) (n cap : Nat) (bs : List UInt8) (w : World) (hr : RdB w w.heap.size A n (2 :: bs)) (hn : n ≤ cap) (hc : n ≤ 140737488351232) (h3 : n ≤ 300) :
    Calls Try.prog 28 #[.slice A n cap] w (DecAns w (decItem (2 :: bs))) := by
  have hl := hr.lenB
  obtain ⟨g, off, c0, rfl, hg, hc1, hc2⟩ := hr.byte (k := 0) (by simp only [List.length_cons] at hl; omega)
  simp only [List.getElem?_cons_zero, Option.some.injEq] at hc1
  subst hc1
  have hn1 : 1 ≤ n := by simp only [List.length_cons] at hl; omega
  have hn0 : ((n : Int) == 0) = false := by simp; omega
  have n0 : (0 : Int) < (n : Int) := by omega
  have cB : ((w.alloc (.cells #[.int .i64 0, .int .i64 0, .int .i64 0, .int .i64 0, .slice none 0 0, .int .i64 0, .int .i64 0, .int .i64 0, .int .i64 0] 52)).alloc (.cells #[(.slice (some ⟨g, off, none⟩) n cap), .int .i64 1, .int .i64 0] 109)).cell? ⟨g, off, none⟩ = some (.int .u8 2) := rdec_byte w (.slice (some ⟨g, off, none⟩) n cap) g off _ hg hc2
  obtain ⟨hI, hR, hD, hbl⟩ := rdecW_facts w 2 (.slice (some ⟨g, off, none⟩) n cap)
  have hgr := hr.below hbl
  have hG : RSt (rdecW w 2 (.slice (some ⟨g, off, none⟩) n cap)) (w.heap.size + 1) n (.slice (some ⟨g, off, none⟩) n cap) (.inr 1) := ⟨hn1, hR⟩
  obtain ⟨x0, h0⟩ : ∃ x0, x0 = rnum (2 :: bs) (.inr 1) 1 4611686018427387904 := ⟨_, rfl⟩
  obtain ⟨x1, h1⟩ : ∃ x1, x1 = rnum (2 :: bs) x0.2 0 (x0.1 - 1) := ⟨_, rfl⟩
  obtain ⟨x2, h2⟩ : ∃ x2, x2 = rnum (2 :: bs) x1.2 0 15 := ⟨_, rfl⟩
  obtain ⟨x3, hx3⟩ : ∃ x3, x3 = rnum (2 :: bs) x2.2 1 4611686018427387904 := ⟨_, rfl⟩
  have hS := decItem_2 bs (by omega) x0 x1 x2 x3 h0 h1 h2 hx3
  have hv0 : 0 ≤ x0.1 ∧ x0.1 ≤ 4611686018427387904 := by rw [h0]; exact rnum_val _ _ _ _
  rw [hl] at hS
  rw [hS]
  clear hS
  obtain ⟨v0, s0⟩ := x0
  obtain ⟨v1, s1⟩ := x1
  obtain ⟨v2, s2⟩ := x2
  obtain ⟨v3, st⟩ := x3
  simp only at h1 h2 hx3 hv0 ⊢
  have HV := Lib.hid hv0
  have H0 := Lib.hid h0
  have H1 := Lib.hid h1
  have H2 := Lib.hid h2
  have H3 := Lib.hid hx3
  have HI := Lib.hid hI
  have HD := Lib.hid hD
  have HB := Lib.hid hbl
  have HG := Lib.hid hG
  have HRD := Lib.hid hgr
  clear hI hR hD hbl hG hgr hr hl h0 h1 h2 hx3 hv0
  go_enter Try.func28, Try.ntmps28
  go_wp2_with fail
  refine (rNum_any (w.heap.size + 1) _ n cap w.heap.size (2 :: bs) (.inr 1) 1 4611686018427387904 (rdecW w 2 (.slice (some ⟨g, off, none⟩) n cap)) HG.out HRD.out (by omega)).mono ?_
  rw [← H0.out]
  rintro _ w1 ⟨rfl, hG1, hch1⟩
  simp only at hG1
  have hI := HI.out
  have hD := HD.out
  have hb := HB.out
  have hrd := HRD.out
  generalize (rdecW w 2 (.slice (some ⟨g, off, none⟩) n cap)) = w0 at hch1 hI hD hb hrd
  clear cB HI HD HB HG HRD H0
  have hzi := hI.lt
  have hzd := hD.lt
  have hI1 := hI.chg hch1 (by omega)
  have hD1 := hD.chg hch1 (by omega)
  have hb1 : Below w.heap.size w w1 := hb.trans (hch1.to_below hb.size (fun k hk => by omega))
  have hr1 : RdB w1 w.heap.size (some ⟨g, off, none⟩) n (2 :: bs) := RdB.chgr hrd hch1 (by omega) (by omega)
  have d0 : w1.cell? ⟨w.heap.size + 1 + 1, 0, none⟩ = some (.int .i64 2) := by rw [hD1.cell]; rfl
  have d1 : w1.cell? ⟨w.heap.size + 1 + 1, 1, none⟩ = some (.int .i64 0) := by rw [hD1.cell]; rfl
  have d2 : w1.cell? ⟨w.heap.size + 1 + 1, 2, none⟩ = some (.int .i64 0) := by rw [hD1.cell]; rfl
  have d3 : w1.cell? ⟨w.heap.size + 1 + 1, 3, none⟩ = some (.int .i64 0) := by rw [hD1.cell]; rfl
  have d4 : w1.cell? ⟨w.heap.size + 1 + 1, 4, none⟩ = some (.slice none 0 0) := by rw [hD1.cell]; rfl
  have d5 : w1.cell? ⟨w.heap.size + 1 + 1, 5, none⟩ = some (.int .i64 0) := by rw [hD1.cell]; rfl
  have d6 : w1.cell? ⟨w.heap.size + 1 + 1, 6, none⟩ = some (.int .i64 0) := by rw [hD1.cell]; rfl
  have d7 : w1.cell? ⟨w.heap.size + 1 + 1, 7, none⟩ = some (.int .i64 0) := by rw [hD1.cell]; rfl
  have d8 : w1.cell? ⟨w.heap.size + 1 + 1, 8, none⟩ = some (.int .i64 0) := by rw [hD1.cell]; rfl
  have fd0 := hD1.frozen 0
  have fd1 := hD1.frozen 1
  have fd2 := hD1.frozen 2
  have fd3 := hD1.frozen 3
  have fd4 := hD1.frozen 4
  have fd5 := hD1.frozen 5
  have fd6 := hD1.frozen 6
  have fd7 := hD1.frozen 7
  have fd8 := hD1.frozen 8
  have ep : IntKind.i64.wrap (v0 - 1) = v0 - 1 := by have := HV.out; exact IntWalk.i64_in _ (by omega)
  go_wp2_with fail
  have hI2 := hI1.far (p := ⟨w.heap.size + 1 + 1, 5, none⟩) (by simp only; omega) (.int .i64 v0)
  have hD2 := hD1.set_ 5 (.int .i64 v0)
  have hc2' := (Chg.refl (fun k => k = w.heap.size + 1 + 1) w1).setCell (p := ⟨w.heap.size + 1 + 1, 5, none⟩) (.inl rfl) (.int .i64 v0)
  have hG2 := hG1.chg hc2' (by omega)
  have hb2 : Below w.heap.size w _ := hb1.trans (hc2'.to_below hb1.size (fun k hk => by omega))
  have hr2 := RdB.chgr hr1 hc2' (by omega) hD1.lt
  clear d0 d1 d2 d3 d4 d5 d6 d7 d8 fd0 fd1 fd2 fd3 fd4 fd5 fd6 fd7 fd8 hI1 hD1 hb1 hG1 hc2' hch1 hI hD hb hrd hr1 hzi hzd w0 ep
  generalize World.setCell _ _ _ = w2 at hI2 hD2 hG2 hb2 hr2 ⊢
  have HI := Lib.hid hI2
  have HD := Lib.hid hD2
  have HB := Lib.hid hb2
  have HG := Lib.hid hG2
  have HRD := Lib.hid hr2
  clear hI2 hD2 hb2 hG2 hr2 w1
  refine (rNum_any (w.heap.size + 1) _ n cap w.heap.size (2 :: bs) s0 0 (v0 - 1) w2 HG.out HRD.out (by omega)).mono ?_
  rw [← H1.out]
  rintro _ w1 ⟨rfl, hG1, hch1⟩
  simp only at hG1
  have hI := HI.out
  have hD := HD.out
  have hb := HB.out
  have hrd := HRD.out
  generalize w2 = w0 at hch1 hI hD hb hrd
  clear HI HD HB HG HRD H1
  have hzi := hI.lt
  have hzd := hD.lt
  have hI1 := hI.chg hch1 (by omega)
  have hD1 := hD.chg hch1 (by omega)
  have hb1 : Below w.heap.size w w1 := hb.trans (hch1.to_below hb.size (fun k hk => by omega))
  have hr1 : RdB w1 w.heap.size (some ⟨g, off, none⟩) n (2 :: bs) := RdB.chgr hrd hch1 (by omega) (by omega)
  have d0 : w1.cell? ⟨w.heap.size + 1 + 1, 0, none⟩ = some (.int .i64 2) := by rw [hD1.cell]; rfl
  have d1 : w1.cell? ⟨w.heap.size + 1 + 1, 1, none⟩ = some (.int .i64 0) := by rw [hD1.cell]; rfl
  have d2 : w1.cell? ⟨w.heap.size + 1 + 1, 2, none⟩ = some (.int .i64 0) := by rw [hD1.cell]; rfl
  have d3 : w1.cell? ⟨w.heap.size + 1 + 1, 3, none⟩ = some (.int .i64 0) := by rw [hD1.cell]; rfl
  have d4 : w1.cell? ⟨w.heap.size + 1 + 1, 4, none⟩ = some (.slice none 0 0) := by rw [hD1.cell]; rfl
  have d5 : w1.cell? ⟨w.heap.size + 1 + 1, 5, none⟩ = some (.int .i64 v0) := by rw [hD1.cell]; rfl
  have d6 : w1.cell? ⟨w.heap.size + 1 + 1, 6, none⟩ = some (.int .i64 0) := by rw [hD1.cell]; rfl
  have d7 : w1.cell? ⟨w.heap.size + 1 + 1, 7, none⟩ = some (.int .i64 0) := by rw [hD1.cell]; rfl
  have d8 : w1.cell? ⟨w.heap.size + 1 + 1, 8, none⟩ = some (.int .i64 0) := by rw [hD1.cell]; rfl
  have fd0 := hD1.frozen 0
  have fd1 := hD1.frozen 1
  have fd2 := hD1.frozen 2
  have fd3 := hD1.frozen 3
  have fd4 := hD1.frozen 4
  have fd5 := hD1.frozen 5
  have fd6 := hD1.frozen 6
  have fd7 := hD1.frozen 7
  have fd8 := hD1.frozen 8
  go_wp2_with fail
  have hI2 := hI1.far (p := ⟨w.heap.size + 1 + 1, 6, none⟩) (by simp only; omega) (.int .i64 v1)
  have hD2 := hD1.set_ 6 (.int .i64 v1)
  have hc2' := (Chg.refl (fun k => k = w.heap.size + 1 + 1) w1).setCell (p := ⟨w.heap.size + 1 + 1, 6, none⟩) (.inl rfl) (.int .i64 v1)
  have hG2 := hG1.chg hc2' (by omega)
  have hb2 : Below w.heap.size w _ := hb1.trans (hc2'.to_below hb1.size (fun k hk => by omega))
  have hr2 := RdB.chgr hr1 hc2' (by omega) hD1.lt
  clear d0 d1 d2 d3 d4 d5 d6 d7 d8 fd0 fd1 fd2 fd3 fd4 fd5 fd6 fd7 fd8 hI1 hD1 hb1 hG1 hc2' hch1 hI hD hb hrd hr1 hzi hzd w0
  generalize World.setCell _ _ _ = w2 at hI2 hD2 hG2 hb2 hr2 ⊢
  have HI := Lib.hid hI2
  have HD := Lib.hid hD2
  have HB := Lib.hid hb2
  have HG := Lib.hid hG2
  have HRD := Lib.hid hr2
  clear hI2 hD2 hb2 hG2 hr2 w1
  refine (rNum_any (w.heap.size + 1) _ n cap w.heap.size (2 :: bs) s1 0 15 w2 HG.out HRD.out (by omega)).mono ?_
  rw [← H2.out]
  rintro _ w1 ⟨rfl, hG1, hch1⟩
  simp only at hG1
  have hI := HI.out
  have hD := HD.out
  have hb := HB.out
  have hrd := HRD.out
  generalize w2 = w0 at hch1 hI hD hb hrd
  clear HI HD HB HG HRD H2
  have hzi := hI.lt
  have hzd := hD.lt
  have hI1 := hI.chg hch1 (by omega)
  have hD1 := hD.chg hch1 (by omega)
  have hb1 : Below w.heap.size w w1 := hb.trans (hch1.to_below hb.size (fun k hk => by omega))
  have hr1 : RdB w1 w.heap.size (some ⟨g, off, none⟩) n (2 :: bs) := RdB.chgr hrd hch1 (by omega) (by omega)
  have d0 : w1.cell? ⟨w.heap.size + 1 + 1, 0, none⟩ = some (.int .i64 2) := by rw [hD1.cell]; rfl
  have d1 : w1.cell? ⟨w.heap.size + 1 + 1, 1, none⟩ = some (.int .i64 0) := by rw [hD1.cell]; rfl
  have d2 : w1.cell? ⟨w.heap.size + 1 + 1, 2, none⟩ = some (.int .i64 0) := by rw [hD1.cell]; rfl
  have d3 : w1.cell? ⟨w.heap.size + 1 + 1, 3, none⟩ = some (.int .i64 0) := by rw [hD1.cell]; rfl
  have d4 : w1.cell? ⟨w.heap.size + 1 + 1, 4, none⟩ = some (.slice none 0 0) := by rw [hD1.cell]; rfl
  have d5 : w1.cell? ⟨w.heap.size + 1 + 1, 5, none⟩ = some (.int .i64 v0) := by rw [hD1.cell]; rfl
  have d6 : w1.cell? ⟨w.heap.size + 1 + 1, 6, none⟩ = some (.int .i64 v1) := by rw [hD1.cell]; rfl
  have d7 : w1.cell? ⟨w.heap.size + 1 + 1, 7, none⟩ = some (.int .i64 0) := by rw [hD1.cell]; rfl
  have d8 : w1.cell? ⟨w.heap.size + 1 + 1, 8, none⟩ = some (.int .i64 0) := by rw [hD1.cell]; rfl
  have fd0 := hD1.frozen 0
  have fd1 := hD1.frozen 1
  have fd2 := hD1.frozen 2
  have fd3 := hD1.frozen 3
  have fd4 := hD1.frozen 4
  have fd5 := hD1.frozen 5
  have fd6 := hD1.frozen 6
  have fd7 := hD1.frozen 7
  have fd8 := hD1.frozen 8
  go_wp2_with fail
  have hI2 := hI1.far (p := ⟨w.heap.size + 1 + 1, 7, none⟩) (by simp only; omega) (.int .i64 v2)
  have hD2 := hD1.set_ 7 (.int .i64 v2)
  have hc2' := (Chg.refl (fun k => k = w.heap.size + 1 + 1) w1).setCell (p := ⟨w.heap.size + 1 + 1, 7, none⟩) (.inl rfl) (.int .i64 v2)
  have hG2 := hG1.chg hc2' (by omega)
  have hb2 : Below w.heap.size w _ := hb1.trans (hc2'.to_below hb1.size (fun k hk => by omega))
  have hr2 := RdB.chgr hr1 hc2' (by omega) hD1.lt
  clear d0 d1 d2 d3 d4 d5 d6 d7 d8 fd0 fd1 fd2 fd3 fd4 fd5 fd6 fd7 fd8 hI1 hD1 hb1 hG1 hc2' hch1 hI hD hb hrd hr1 hzi hzd w0
  generalize World.setCell _ _ _ = w2 at hI2 hD2 hG2 hb2 hr2 ⊢
  have HI := Lib.hid hI2
  have HD := Lib.hid hD2
  have HB := Lib.hid hb2
  have HG := Lib.hid hG2
  have HRD := Lib.hid hr2
  clear hI2 hD2 hb2 hG2 hr2 w1
  refine (rNum_any (w.heap.size + 1) _ n cap w.heap.size (2 :: bs) s2 1 4611686018427387904 w2 HG.out HRD.out (by omega)).mono ?_
  rw [← H3.out]
  rintro _ w1 ⟨rfl, hG1, hch1⟩
  simp only at hG1
  have hI := HI.out
  have hD := HD.out
  have hb := HB.out
  have hrd := HRD.out
  generalize w2 = w0 at hch1 hI hD hb hrd
  clear HI HD HB HG HRD H3
  have hzi := hI.lt
  have hzd := hD.lt
  have hI1 := hI.chg hch1 (by omega)
  have hD1 := hD.chg hch1 (by omega)
  have hb1 : Below w.heap.size w w1 := hb.trans (hch1.to_below hb.size (fun k hk => by omega))
  have hr1 : RdB w1 w.heap.size (some ⟨g, off, none⟩) n (2 :: bs) := RdB.chgr hrd hch1 (by omega) (by omega)
  have d0 : w1.cell? ⟨w.heap.size + 1 + 1, 0, none⟩ = some (.int .i64 2) := by rw [hD1.cell]; rfl
  have d1 : w1.cell? ⟨w.heap.size + 1 + 1, 1, none⟩ = some (.int .i64 0) := by rw [hD1.cell]; rfl
  have d2 : w1.cell? ⟨w.heap.size + 1 + 1, 2, none⟩ = some (.int .i64 0) := by rw [hD1.cell]; rfl
  have d3 : w1.cell? ⟨w.heap.size + 1 + 1, 3, none⟩ = some (.int .i64 0) := by rw [hD1.cell]; rfl
  have d4 : w1.cell? ⟨w.heap.size + 1 + 1, 4, none⟩ = some (.slice none 0 0) := by rw [hD1.cell]; rfl
  have d5 : w1.cell? ⟨w.heap.size + 1 + 1, 5, none⟩ = some (.int .i64 v0) := by rw [hD1.cell]; rfl
  have d6 : w1.cell? ⟨w.heap.size + 1 + 1, 6, none⟩ = some (.int .i64 v1) := by rw [hD1.cell]; rfl
  have d7 : w1.cell? ⟨w.heap.size + 1 + 1, 7, none⟩ = some (.int .i64 v2) := by rw [hD1.cell]; rfl
  have d8 : w1.cell? ⟨w.heap.size + 1 + 1, 8, none⟩ = some (.int .i64 0) := by rw [hD1.cell]; rfl
  have fd0 := hD1.frozen 0
  have fd1 := hD1.frozen 1
  have fd2 := hD1.frozen 2
  have fd3 := hD1.frozen 3
  have fd4 := hD1.frozen 4
  have fd5 := hD1.frozen 5
  have fd6 := hD1.frozen 6
  have fd7 := hD1.frozen 7
  have fd8 := hD1.frozen 8
  go_wp2_with fail
  have hI2 := hI1.far (p := ⟨w.heap.size + 1 + 1, 8, none⟩) (by simp only; omega) (.int .i64 v3)
  have hD2 := hD1.set_ 8 (.int .i64 v3)
  have hc2' := (Chg.refl (fun k => k = w.heap.size + 1 + 1) w1).setCell (p := ⟨w.heap.size + 1 + 1, 8, none⟩) (.inl rfl) (.int .i64 v3)
  have hG2 := hG1.chg hc2' (by omega)
  have hb2 : Below w.heap.size w _ := hb1.trans (hc2'.to_below hb1.size (fun k hk => by omega))
  have hr2 := RdB.chgr hr1 hc2' (by omega) hD1.lt
  clear d0 d1 d2 d3 d4 d5 d6 d7 d8 fd0 fd1 fd2 fd3 fd4 fd5 fd6 fd7 fd8 hI1 hD1 hb1 hG1 hc2' hch1 hI hD hb hrd hr1 hzi hzd w0
  generalize World.setCell _ _ _ = w2 at hI2 hD2 hG2 hb2 hr2 ⊢
  have HO : Hid (w2.ownsRow w.heap.size 5 1 (.slice none 0 0) 0 (bvs [])) := ⟨rfl, .inl ⟨rfl, rfl⟩⟩
  have HOB : Hid (∀ g, (Value.slice none 0 0).ownBlock = some g → w.heap.size + 1 + 1 < g) := by intro g hg; simp [Value.ownBlock] at hg
  refine (rEnd_any (w.heap.size + 1) n _ cap st w2 hG2 (by omega)).mono ?_
  rintro _ w3 ⟨rfl, hG3, hch3⟩
  have hzi := hI2.lt
  have hzd := hD2.lt
  have hI3 := hI2.chg hch3 (by omega)
  have hD3 := hD2.chg hch3 (by omega)
  have hb3 : Below w.heap.size w w3 := hb2.trans (hch3.to_below hb2.size (fun k hk => by omega))
  have HO3 := Lib.hid (own_chg HO.out hch3 (fun g hg hgp => by have := HOB.out g hg; omega))
  clear hG2 hI2 hD2 hb2
  have d0 : w3.cell? ⟨w.heap.size + 1 + 1, 0, none⟩ = some (.int .i64 2) := by rw [hD3.cell]; rfl
  have d1 : w3.cell? ⟨w.heap.size + 1 + 1, 1, none⟩ = some (.int .i64 0) := by rw [hD3.cell]; rfl
  have d2 : w3.cell? ⟨w.heap.size + 1 + 1, 2, none⟩ = some (.int .i64 0) := by rw [hD3.cell]; rfl
  have d3 : w3.cell? ⟨w.heap.size + 1 + 1, 3, none⟩ = some (.int .i64 0) := by rw [hD3.cell]; rfl
  have d4 : w3.cell? ⟨w.heap.size + 1 + 1, 4, none⟩ = some (.slice none 0 0) := by rw [hD3.cell]; rfl
  have d5 : w3.cell? ⟨w.heap.size + 1 + 1, 5, none⟩ = some (.int .i64 v0) := by rw [hD3.cell]; rfl
  have d6 : w3.cell? ⟨w.heap.size + 1 + 1, 6, none⟩ = some (.int .i64 v1) := by rw [hD3.cell]; rfl
  have d7 : w3.cell? ⟨w.heap.size + 1 + 1, 7, none⟩ = some (.int .i64 v2) := by rw [hD3.cell]; rfl
  have d8 : w3.cell? ⟨w.heap.size + 1 + 1, 8, none⟩ = some (.int .i64 v3) := by rw [hD3.cell]; rfl
  have i0 : w3.cell? ⟨w.heap.size, 0, none⟩ = some (.int .i64 0) := by rw [hI3.cell]; rfl
  have i1 : w3.cell? ⟨w.heap.size, 1, none⟩ = some (.int .i64 0) := by rw [hI3.cell]; rfl
  have i2 : w3.cell? ⟨w.heap.size, 2, none⟩ = some (.int .i64 0) := by rw [hI3.cell]; rfl
  have i3 : w3.cell? ⟨w.heap.size, 3, none⟩ = some (.int .i64 0) := by rw [hI3.cell]; rfl
  have i4 : w3.cell? ⟨w.heap.size, 4, none⟩ = some (.slice none 0 0) := by rw [hI3.cell]; rfl
  have i5 : w3.cell? ⟨w.heap.size, 5, none⟩ = some (.int .i64 0) := by rw [hI3.cell]; rfl
  have i6 : w3.cell? ⟨w.heap.size, 6, none⟩ = some (.int .i64 0) := by rw [hI3.cell]; rfl
  have i7 : w3.cell? ⟨w.heap.size, 7, none⟩ = some (.int .i64 0) := by rw [hI3.cell]; rfl
  have i8 : w3.cell? ⟨w.heap.size, 8, none⟩ = some (.int .i64 0) := by rw [hI3.cell]; rfl
  have fi0 := hI3.frozen 0
  have fi1 := hI3.frozen 1
  have fi2 := hI3.frozen 2
  have fi3 := hI3.frozen 3
  have fi4 := hI3.frozen 4
  have fi5 := hI3.frozen 5
  have fi6 := hI3.frozen 6
  have fi7 := hI3.frozen 7
  have fi8 := hI3.frozen 8
  cases hst : rend n st with
  | inl er =>
    rw [hst] at hG3
    obtain ⟨he0, x, hB⟩ := hG3
    have hb : (er != 0) = true := by simp [he0]
    have c2 : w3.cell? ⟨w.heap.size + 1, 2, none⟩ = some (.int .i64 er) := by rw [hB.cell]; rfl
    have HT : Hid (rdec n ⟨2, 0, 0, 0, [], v0, v1, v2, v3⟩ st = (.zero, er)) := by show _ = _; unfold rdec; rw [hst]
    clear hst
    go_wp2_with fail
    go_region
    all_goals go_wp2
    rw [HT.out]
    have hI4 := (((((((((hI3.set_ 0 (.int .i64 0)).set_ 1 (.int .i64 0)).set_ 2 (.int .i64 0)).set_ 3 (.int .i64 0)).set_ 4 (.slice none 0 0)).set_ 5 (.int .i64 0)).set_ 6 (.int .i64 0)).set_ 7 (.int .i64 0)).set_ 8 (.int .i64 0)).drew
    have hc4 := ((((((((((Chg.refl (fun k => k = w.heap.size) w3).setCell (p := ⟨w.heap.size, 0, none⟩) (.inl rfl) (.int .i64 0)).setCell (p := ⟨w.heap.size, 1, none⟩) (.inl rfl) (.int .i64 0)).setCell (p := ⟨w.heap.size, 2, none⟩) (.inl rfl) (.int .i64 0)).setCell (p := ⟨w.heap.size, 3, none⟩) (.inl rfl) (.int .i64 0)).setCell (p := ⟨w.heap.size, 4, none⟩) (.inl rfl) (.slice none 0 0)).setCell (p := ⟨w.heap.size, 5, none⟩) (.inl rfl) (.int .i64 0)).setCell (p := ⟨w.heap.size, 6, none⟩) (.inl rfl) (.int .i64 0)).setCell (p := ⟨w.heap.size, 7, none⟩) (.inl rfl) (.int .i64 0)).setCell (p := ⟨w.heap.size, 8, none⟩) (.inl rfl) (.int .i64 0)).drew
    exact rItemZero w _ w.heap.size _ _ er rfl rfl hI4 (by simp [itemZ]) (hb3.trans (hc4.to_below hb3.size (fun k hk => by omega)))
  | inr pe =>
    rw [hst] at hG3
    obtain ⟨-, hB⟩ := hG3
    have c2 : w3.cell? ⟨w.heap.size + 1, 2, none⟩ = some (.int .i64 0) := by rw [hB.cell]; rfl
    have HT : Hid (rdec n ⟨2, 0, 0, 0, [], v0, v1, v2, v3⟩ st = (⟨2, 0, 0, 0, [], v0, v1, v2, v3⟩, 0)) := by show _ = _; unfold rdec; rw [hst]
    clear hst
    go_wp2_with fail
    rw [HT.out]
    have hI4 := (((((((((hI3.set_ 0 (.int .i64 2)).set_ 1 (.int .i64 0)).set_ 2 (.int .i64 0)).set_ 3 (.int .i64 0)).set_ 4 (.slice none 0 0)).set_ 5 (.int .i64 v0)).set_ 6 (.int .i64 v1)).set_ 7 (.int .i64 v2)).set_ 8 (.int .i64 v3))
    have hc4 := ((((((((((Chg.refl (fun k => k = w.heap.size) w3).setCell (p := ⟨w.heap.size, 0, none⟩) (.inl rfl) (.int .i64 2)).setCell (p := ⟨w.heap.size, 1, none⟩) (.inl rfl) (.int .i64 0)).setCell (p := ⟨w.heap.size, 2, none⟩) (.inl rfl) (.int .i64 0)).setCell (p := ⟨w.heap.size, 3, none⟩) (.inl rfl) (.int .i64 0)).setCell (p := ⟨w.heap.size, 4, none⟩) (.inl rfl) (.slice none 0 0)).setCell (p := ⟨w.heap.size, 5, none⟩) (.inl rfl) (.int .i64 v0)).setCell (p := ⟨w.heap.size, 6, none⟩) (.inl rfl) (.int .i64 v1)).setCell (p := ⟨w.heap.size, 7, none⟩) (.inl rfl) (.int .i64 v2)).setCell (p := ⟨w.heap.size, 8, none⟩) (.inl rfl) (.int .i64 v3))
    exact rItemDone w _ w.heap.size _ _ _ none 0 0 rfl rfl hI4 (by simp) (by simp [ItemD.v, itemV]) (hb3.trans (hc4.to_below hb3.size (fun k hk => by omega))) (own_chg HO3.out hc4 (fun g hg hgp => by have := HOB.out g hg; omega))
set_option maxRecDepth 100000 in
set_option maxHeartbeats 1600000 in
theorem RDecodeItem_else (A : Option Addr) (n cap : Nat) (b : UInt8) (bs : List UInt8) (w : World) (hr : RdB w w.heap.size A n (b :: bs)) (hn : n ≤ cap) (hc : n ≤ 140737488351232) (h3 : n ≤ 300) (h1 : b ≠ 1) (h2 : b ≠ 2) :
    Calls Try.prog 28 #[.slice A n cap] w (DecAns w (.zero, 12)) := by
  have hl := hr.lenB
  simp only [List.length_cons] at hl
  obtain ⟨g, off, c0, rfl, hg, hc1, hc2⟩ := hr.byte (k := 0) (by omega)
  simp only [List.getElem?_cons_zero, Option.some.injEq] at hc1
  subst hc1
  have hn0 : ((n : Int) == 0) = false := by simp; omega
  have n0 : (0 : Int) < (n : Int) := by omega
  have cB := rdec_byte w (.slice (some ⟨g, off, none⟩) n cap) g off _ hg hc2
  have hbv := b_wrap b
  have hb1 : ((b.toNat : Int) == 1) = false := b_ne b 1 h1
  have hb2 : ((b.toNat : Int) == 2) = false := b_ne b 2 h2
  obtain ⟨hI, hR, hD, hbl⟩ := rdecW_facts w (b.toNat : Int) (.slice (some ⟨g, off, none⟩) n cap)
  have HI := Lib.hid hI
  have HB := Lib.hid hbl
  clear hI hR hD hbl
  go_enter Try.func28, Try.ntmps28
  go_wp2_with fail
  exact rItemZero w (rdecW w (b.toNat : Int) (.slice (some ⟨g, off, none⟩) n cap)) w.heap.size _ _ 12 rfl rfl HI.out rfl HB.out
set_option maxRecDepth 100000 in
theorem RDecodeItem_long (A : Option Addr) (n cap : Nat) (w : World) (h3 : 300 < n) :
    Calls Try.prog 28 #[.slice A n cap] w (DecAns w (.zero, 17)) := by
  have hI : (300 : Int) < (n : Int) := by omega
  have H1 := Lib.hid (Blk.new w 52 itemZ)
  have HB := Lib.hid ((Chg.refl (fun _ => False) w).alloc (.cells itemZ 52) |>.to_below (Nat.le_refl _) (fun k h => h.elim))
  go_enter Try.func28, Try.ntmps28
  go_wp2_with fail
  exact rItemZero w _ w.heap.size _ _ 17 rfl rfl H1.out rfl HB.out
set_option maxRecDepth 100000 in
theorem RDecodeItem_empty (A : Option Addr) (cap : Nat) (w : World) :
    Calls Try.prog 28 #[.slice A 0 cap] w (DecAns w (.zero, 10)) := by
  have H1 := Lib.hid (Blk.new w 52 itemZ)
  have HB := Lib.hid ((Chg.refl (fun _ => False) w).alloc (.cells itemZ 52) |>.to_below (Nat.le_refl _) (fun k h => h.elim))
  go_enter Try.func28, Try.ntmps28
  go_wp2_with fail
  exact rItemZero w _ w.heap.size _ _ 10 rfl rfl H1.out rfl HB.out
theorem RDecodeItem_any (A : Option Addr) (n cap : Nat) (bs : List UInt8) (w : World) (hr : RdB w w.heap.size A n bs) (hn : n ≤ cap) (hc : n ≤ 140737488351232) :
    Calls Try.prog 28 #[.slice A n cap] w (DecAns w (decItem bs)) := by
  have hl := hr.lenB
  by_cases h3 : 300 < n
  · rw [show decItem bs = (.zero, 17) by unfold decItem; rw [if_pos (by omega)]]
    exact RDecodeItem_long A n cap w h3
  · cases bs with
    | nil =>
      obtain rfl : n = 0 := by simpa using hl.symm
      exact RDecodeItem_empty A cap w
    | cons b bs =>
      by_cases h1 : b = 1
      · subst h1
        exact RDecodeItem_1 A n cap bs w hr hn hc (by omega)
      · by_cases h2 : b = 2
        · subst h2
          exact RDecodeItem_2 A n cap bs w hr hn hc (by omega)
        · rw [show decItem (b :: bs) = (.zero, 12) by unfold decItem; rw [if_neg (by omega)]; simp only [if_neg h1, if_neg h2]]
          exact RDecodeItem_else A n cap b bs w hr hn hc (by omega) h1 h2
end Go.Proofs.Ytjafmcahlmopiaa
