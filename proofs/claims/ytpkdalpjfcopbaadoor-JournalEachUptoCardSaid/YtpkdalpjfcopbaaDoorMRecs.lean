/-
  The document's Records.
-/
import Derived.Test.YtpkdalpjfcopbaaDoorLOpen
import Derived.Test.YtpkdalpjfcopbaaDoorMEach
namespace Go.Proofs.YtpkdalpjfcopbaaDoor
open Go.RowKit
/-- What a read file gives. -/
theorem RdV.gives {w : World} {base : Nat} {bs : List UInt8} {r : RV} {x : Fi} (h : RdV w base bs r) (hx : readR bs = some x) : ∃ K, r.m = K.length ∧ K.map Rk.rc = x.recs ∧ RcOwn w base (.slice r.A K.length r.c) K := by
  unfold RdV at h
  rw [hx] at h
  obtain ⟨_, _, _, _, _, K, h6, h7, h8⟩ := h
  rw [h7] at h8
  exact ⟨K, h7, h6, h8⟩
set_option maxRecDepth 100000 in
set_option maxHeartbeats 1600000 in
theorem RRecords_any {w : World} {f : Fls} {A0 A1 : Option Addr} {c0 c1 : Nat} (h0 : RdB w w.heap.size A0 f.a.length f.a) (h1 : RdB w w.heap.size A1 f.b.length f.b) (n0 : f.a.length ≤ c0) (n1 : f.b.length ≤ c1) (m0 : c0 ≤ 9223372036854775807) (m1 : c1 ≤ 9223372036854775807) :
    Calls Tryd.prog 10 #[.agg #[.slice A0 f.a.length c0, .slice A1 f.b.length c1]] w fun e w' => ∃ A c K, e = .returned (.slice A K.length c) ∧ RcOwn w' w.heap.size (.slice A K.length c) K ∧ K.map Rk.rc = giveR f ∧ Below w.heap.size w w' := by
  obtain ⟨w1, hw1⟩ : ∃ x, x = w.alloc (.cells #[.slice A0 f.a.length c0, .slice A1 f.b.length c1] 24) := ⟨_, rfl⟩
  have hb1 : Below w.heap.size w w1 := by rw [hw1]; exact one_box' _ _
  have hB1 : Blk w1 w.heap.size 24 #[.slice A0 f.a.length c0, .slice A1 f.b.length c1] := by rw [hw1]; exact Blk.new _ _ _
  have d0 : w1.cell? ⟨w.heap.size, 0, none⟩ = some (.slice A0 f.a.length c0) := hB1.cell 0
  have HW1 := Lib.hid hw1
  have HB1 := Lib.hid hb1
  have HX1 := Lib.hid hB1
  have HRA : Hid (Calls Tryd.prog 44 #[.slice A0 f.a.length c0] w1 (ReadP w1 f.a)) := Lib.hid (Read_any ((h0.below hb1).more hb1.size) n0 m0)
  have HRBB : Hid (∀ W, Below w.heap.size w W → Calls Tryd.prog 44 #[.slice A1 f.b.length c1] W (ReadP W f.b)) := Lib.hid fun W hb => Read_any ((h1.below hb).more hb.size) n1 m1
  clear hw1 hb1 hB1 h0 h1
  go_enter Tryd.func10, Tryd.ntmps10
  go_upto_region 1 with fail
  rw [← HW1.out]
  go_upto_region 2 with (go_at_call 44; refine HRA.out.mono ?_; rintro _ w2 ⟨ra, rfl, hv2, hb2⟩; unfold RV.val; have H2 := Lib.hid (And.intro hv2 hb2); clear hv2 hb2)
  obtain ⟨w3, hw3⟩ : ∃ x, x = w2.alloc (.cells #[.int .i64 ra.gn, .int .i64 ra.ct, .int .i64 ra.fn, .slice ra.A ra.m ra.c, .bool ra.so, .bool ra.cl] 82) := ⟨_, rfl⟩
  rw [← hw3]
  have hb3 : Below w2.heap.size w2 w3 := by rw [hw3]; exact one_box' _ _
  have hQ6 : Blk w3 w2.heap.size 82 ra.cells := by rw [hw3]; exact Blk.new _ _ _
  have hbw3 : Below w.heap.size w w3 := Below.then HB1.out (Below.then H2.out.2 hb3)
  have hX3 := (HX1.out.over H2.out.2).over hb3
  have d1 : w3.cell? ⟨w.heap.size, 1, none⟩ = some (.slice A1 f.b.length c1) := hX3.cell 1
  have H3 := Lib.hid (And.intro hQ6 (And.intro hbw3 (And.intro hX3 (H2.out.1.below hb3))))
  have hq6 : w2.heap.size < w3.heap.size := hQ6.lt
  have hqd : w.heap.size < w2.heap.size := (HX1.out.over H2.out.2).lt
  clear hw3 hb3 hQ6 hbw3 hX3 d0 HRA
  go_upto_region 3 with (go_at_call 44; refine (HRBB.out _ H3.out.2.1).mono ?_; rintro _ w4 ⟨rb, rfl, hv4, hb4⟩; unfold RV.val; have H4 := Lib.hid (And.intro hv4 hb4); clear hv4 hb4)
  obtain ⟨w5, hw5⟩ : ∃ x, x = w4.alloc (.cells #[.int .i64 rb.gn, .int .i64 rb.ct, .int .i64 rb.fn, .slice rb.A rb.m rb.c, .bool rb.so, .bool rb.cl] 82) := ⟨_, rfl⟩
  rw [← hw5]
  have hb5 : Below w4.heap.size w4 w5 := by rw [hw5]; exact one_box' _ _
  have hQ7 : Blk w5 w4.heap.size 82 rb.cells := by rw [hw5]; exact Blk.new _ _ _
  have hb35 : Below w3.heap.size w3 w5 := Below.then H4.out.2 hb5
  have hbw5 : Below w.heap.size w w5 := H3.out.2.1.trans (hb35.mono H3.out.2.1.size)
  have hQ6 := H3.out.1.over hb35
  obtain ⟨⟨x0, x1, x2, x3, x4, x5⟩, _⟩ := rv_cells hQ6
  obtain ⟨⟨y0, y1, y2, y3, y4, y5⟩, _⟩ := rv_cells hQ7
  have hs1 : w.heap.size ≤ w1.heap.size := HB1.out.size
  have hva := (H3.out.2.2.2.below hb35).mono (base' := w.heap.size) hs1
  have hvb := (H4.out.1.below hb5).mono (base' := w.heap.size) (by have := H2.out.2.size; omega)
  have hpk := rpick_any (w := w5) hva hvb
  unfold RV.val at hpk
  have HPK := Lib.hid hpk
  have H5 := Lib.hid (And.intro hQ6 (And.intro hQ7 (And.intro hbw5 (And.intro hva hvb))))
  have hq7 : w3.heap.size ≤ w4.heap.size := H4.out.2.size
  have hq75 : w4.heap.size < w5.heap.size := hQ7.lt
  clear hw5 hb5 hQ6 hQ7 hb35 hbw5 hva hvb hpk d1 HRBB
  go_upto_region 4 with (go_at_call 45; refine HPK.out.mono ?_; rintro _ w6 ⟨rfl, hb6⟩; have H6 := Lib.hid hb6; clear hb6)
  have HB6 : Hid (Below w.heap.size w w6) := Lib.hid (H5.out.2.2.1.trans (H6.out.mono H5.out.2.2.1.size))
  clear x0 x1 x2 x3 x4 x5 y0 y1 y2 y3 y4 y5 HPK
  cases hp : pickR f with
  | none =>
    rw [pickI_none hp]
    have HG : Hid (giveR f = []) := Lib.hid (by unfold giveR; rw [hp])
    clear hp
    go_wp2_with fail
    refine bodyPost_ret (v := .slice none 0 0) (by simp [results, Tryd.results10, go_sem]) rfl ⟨none, 0, [], rfl, RcOwn.nil, HG.out.symm, HB6.out⟩
  | some kx =>
    obtain ⟨k, x⟩ := kx
    rw [pickI_some hp]
    obtain ⟨hrd, hk01⟩ := pickR_read hp
    have HG : Hid (giveR f = x.recs) := Lib.hid (by unfold giveR; rw [hp])
    rcases hk01 with rfl | rfl
    · obtain ⟨⟨x0, x1, x2, x3, x4, x5⟩, _⟩ := rv_cells (H5.out.1.over H6.out)
      obtain ⟨K, hm, hKr, hK⟩ := (H5.out.2.2.2.1.below H6.out).gives hrd
      rw [hm] at x3
      have HK := Lib.hid (And.intro hK hKr)
      clear hp hrd hK hKr hm
      go_wp2_with fail
      refine bodyPost_ret (v := .slice ra.A K.length ra.c) (by simp [results, Tryd.results10, go_sem]) rfl ⟨_, _, K, rfl, HK.out.1, HK.out.2.trans HG.out.symm, HB6.out⟩
    · obtain ⟨⟨y0, y1, y2, y3, y4, y5⟩, _⟩ := rv_cells (H5.out.2.1.over H6.out)
      obtain ⟨K, hm, hKr, hK⟩ := (H5.out.2.2.2.2.below H6.out).gives hrd
      rw [hm] at y3
      have HK := Lib.hid (And.intro hK hKr)
      clear hp hrd hK hKr hm
      go_wp2_with fail
      refine bodyPost_ret (v := .slice rb.A K.length rb.c) (by simp [results, Tryd.results10, go_sem]) rfl ⟨_, _, K, rfl, HK.out.1, HK.out.2.trans HG.out.symm, HB6.out⟩
end Go.Proofs.YtpkdalpjfcopbaaDoor
