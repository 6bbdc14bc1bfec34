/-
  The laws' helpers: num, record, records, writes (where both sides are alike).
-/
import Derived.Test.YtpkdalpjfcopbaaDoorKOpen
import Derived.Test.YtpkdalpjfcopbaaDoorAFil
namespace Go.Proofs.YtpkdalpjfcopbaaDoor
open Go.RowKit
theorem num_any {w : World} (i : Int) : Calls Tryd.prog 20 #[.int .i64 i] w fun e w' => e = .returned (.int .i64 i) ∧ w' = w := by
  go_enter Tryd.func20, Tryd.ntmps20
  go_wp2
  go_ret
  exact ⟨rfl, rfl⟩
set_option maxRecDepth 100000 in
set_option maxHeartbeats 800000 in
theorem record_yes {w : World} (kd : Int) (A1 A2 : Option Addr) (n c1 c2 : Nat) (body : List UInt8) (h1 : RdB w w.heap.size A1 n body) (h2 : RdB w w.heap.size A2 n body) :
    Calls Tryd.prog 15 #[.agg #[.int .i64 kd, .slice A1 n c1], .agg #[.int .i64 kd, .slice A2 n c2]] w fun e w' => e = .returned (.bool true) ∧ Below w.heap.size w w' := by
  obtain ⟨w1, hw1⟩ : ∃ x, x = w.alloc (.cells #[.int .i64 kd, .slice A1 n c1] 34) := ⟨_, rfl⟩
  obtain ⟨w2, hw2⟩ : ∃ x, x = w1.alloc (.cells #[.int .i64 kd, .slice A2 n c2] 34) := ⟨_, rfl⟩
  have hb1 : Below w.heap.size w w1 := by rw [hw1]; exact one_box' _ _
  have hb2 : Below w1.heap.size w1 w2 := by rw [hw2]; exact one_box' _ _
  have hs1 : w1.heap.size = w.heap.size + 1 := by rw [hw1]; simp
  have hB1 : Blk w2 w.heap.size 34 #[.int .i64 kd, .slice A1 n c1] := by
    refine Blk.over ?_ hb2
    rw [hw1]
    exact Blk.new _ _ _
  have hB2 : Blk w2 (w.heap.size + 1) 34 #[.int .i64 kd, .slice A2 n c2] := by rw [hw2, ← hs1]; exact Blk.new _ _ _
  have hb := Below.then hb1 hb2
  have x0 : w2.cell? ⟨w.heap.size, 0, none⟩ = some (.int .i64 kd) := hB1.cell 0
  have x1 : w2.cell? ⟨w.heap.size, 1, none⟩ = some (.slice A1 n c1) := hB1.cell 1
  have y0 : w2.cell? ⟨w.heap.size + 1, 0, none⟩ = some (.int .i64 kd) := hB2.cell 0
  have y1 : w2.cell? ⟨w.heap.size + 1, 1, none⟩ = some (.slice A2 n c2) := hB2.cell 1
  have HS := Lib.hid (same_c A1 A2 n n c1 c2 _ _ body w2 (h1.below hb) (h2.below hb))
  have HW := Lib.hid (And.intro hw1 (And.intro hw2 hb))
  clear hw1 hw2 hb1 hb2 hs1 hB1 hB2 hb h1 h2
  go_enter Tryd.func15, Tryd.ntmps15
  go_upto_region 1 with fail
  rw [← HW.out.1, ← HW.out.2.1]
  go_wp2_with (go_at_call 48; refine HS.out.mono ?_; rintro _ w3 ⟨rfl, rfl⟩)
  go_ret
  exact ⟨rfl, HW.out.2.2⟩
set_option maxRecDepth 100000 in
set_option maxHeartbeats 800000 in
theorem records_yes {w : World} {A1 A2 : Option Addr} {m c1 c2 : Nat} {rs : List Rc} (h1 : RcRd w (fun _ => False) A1 m rs) (h2 : RcRd w (fun _ => False) A2 m rs) (hm : m ≤ 4611686018427387904) :
    Calls Tryd.prog 14 #[.slice A1 m c1, .slice A2 m c2] w fun e w' => e = .returned (.bool true) ∧ Below w.heap.size w w' := by
  have HL := Lib.hid h1.len
  have H1 := Lib.hid h1
  have H2 := Lib.hid h2
  have HB0 := Lib.hid (Below.refl w.heap.size w)
  clear h1 h2
  go_enter Tryd.func14, Tryd.ntmps14
  go_wp2_with fail
  go_loopw [5] (fun i wr => ∃ n : Nat, n ≤ m ∧ i = .int .i64 (n : Int) ∧ Hid (Below w.heap.size w wr)) (fun i _ => m - (intOf i).toNat)
  case atStart => exact ⟨0, by omega, rfl, HB0⟩
  case round =>
    obtain ⟨n, hn, rfl, HZ⟩ := hrel
    by_cases hlt : n < m
    · have hI : (n : Int) < (m : Int) := by omega
      obtain ⟨rc, hx⟩ : ∃ rc, rs[n]? = some rc := ⟨rs[n]'(by rw [← HL.out]; exact hlt), List.getElem?_eq_getElem _⟩
      obtain ⟨q1, o1, b1, e1, rfl, hq1, _, x0, x1, hr1, _, _⟩ := (H1.out.below HZ.out).at_ n rc hx
      obtain ⟨q2, o2, b2, e2, rfl, hq2, _, y0, y1, hr2, _, _⟩ := (H2.out.below HZ.out).at_ n rc hx
      have HRC := Lib.hid (record_yes (w := wr.drew) rc.kind b1 b2 rc.body.length e1 e2 rc.body (hr1.dn 1) (hr2.dn 1))
      clear hr1 hr2 hx
      go_upto_region 6 with fail
      refine wp_region_held_drew (S := fun W => (W.cell? ⟨q1, o1 + n * 2, none⟩ = some (.int .i64 rc.kind) ∧ W.cell? ⟨q1, o1 + n * 2 + 1, none⟩ = some (.slice b1 rc.body.length e1)) ∧ (W.cell? ⟨q2, o2 + n * 2, none⟩ = some (.int .i64 rc.kind) ∧ W.cell? ⟨q2, o2 + n * 2 + 1, none⟩ = some (.slice b2 rc.body.length e2))) (by kernel_rfl) (⟨⟨x0, x1⟩, ⟨y0, y1⟩⟩) (fun hsw => ?_)
      refine wpAnyH_take (i := 0) (oi := ?oi0a) (v := ?v0a) ?hi0a (by kernel_rfl) (by kernel_rfl) (by kernel_rfl) ?hq0a ?hy0a (by assumption) ?rest0a
      case hi0a => (simp only [List.getElem?_toArray, List.getElem?_cons_zero]; rfl)
      case hy0a => (refine Or.inl ⟨by rfl, ?_⟩; intro w hSw; (try dsimp only at hSw); go_simp; try with_reducible rfl)
      case hq0a => exact fun _ _ _ h => h
      try simp only [Act.put, List.setIfInBounds_toArray, List.set_cons_zero, List.set_cons_succ]
      refine wpAnyH_take (i := 1) (oi := ?oi1a) (v := ?v1a) ?hi1a (by kernel_rfl) (by kernel_rfl) (by kernel_rfl) ?hq1a ?hy1a (by assumption) ?rest1a
      case hi1a => (simp only [List.getElem?_toArray, List.getElem?_cons_zero, List.getElem?_cons_succ]; rfl)
      case hy1a => (refine Or.inl ⟨by rfl, ?_⟩; intro w hSw; (try dsimp only at hSw); go_simp; try with_reducible rfl)
      case hq1a => exact fun _ _ _ h => h
      try simp only [Act.put, List.setIfInBounds_toArray, List.set_cons_zero, List.set_cons_succ]
      refine wpAnyH_take (i := 2) (oi := ?oi2a) (v := ?v2a) ?hi2a (by kernel_rfl) (by kernel_rfl) (by kernel_rfl) ?hq2a ?hy2a (by assumption) ?rest2a
      case hi2a => (simp only [List.getElem?_toArray, List.getElem?_cons_zero, List.getElem?_cons_succ]; rfl)
      case hy2a => (refine Or.inl ⟨by rfl, ?_⟩; intro w hSw; (try dsimp only at hSw); go_simp; try with_reducible rfl)
      case hq2a => exact fun _ _ _ h => h
      try simp only [Act.put, List.setIfInBounds_toArray, List.set_cons_zero, List.set_cons_succ]
      refine wpAnyH_take (i := 3) (oi := ?oi3a) (v := ?v3a) ?hi3a (by kernel_rfl) (by kernel_rfl) (by kernel_rfl) ?hq3a ?hy3a (by assumption) ?rest3a
      case hi3a => (simp only [List.getElem?_toArray, List.getElem?_cons_zero, List.getElem?_cons_succ]; rfl)
      case hy3a => (refine Or.inl ⟨by rfl, ?_⟩; intro w hSw; (try dsimp only at hSw); go_simp; try with_reducible rfl)
      case hq3a => exact fun _ _ _ h => h
      try simp only [Act.put, List.setIfInBounds_toArray, List.set_cons_zero, List.set_cons_succ]
      refine wpAnyH_take (i := 4) (oi := ?oi4a) (v := ?v4a) ?hi4a (by kernel_rfl) (by kernel_rfl) (by kernel_rfl) ?hq4a ?hy4a (by assumption) ?rest4a
      case hi4a => (simp only [List.getElem?_toArray, List.getElem?_cons_zero, List.getElem?_cons_succ]; rfl)
      case hy4a => (refine Or.inl ⟨by rfl, ?_⟩; intro w hSw; (try dsimp only at hSw); go_simp; try with_reducible rfl)
      case hq4a => exact fun _ _ _ h => h
      try simp only [Act.put, List.setIfInBounds_toArray, List.set_cons_zero, List.set_cons_succ]
      refine wpAnyH_take (i := 5) (oi := ?oi5a) (v := ?v5a) ?hi5a (by kernel_rfl) (by kernel_rfl) (by kernel_rfl) ?hq5a ?hy5a (by assumption) ?rest5a
      case hi5a => (simp only [List.getElem?_toArray, List.getElem?_cons_zero, List.getElem?_cons_succ]; rfl)
      case hy5a => (refine Or.inl ⟨by rfl, ?_⟩; intro w hSw; (try dsimp only at hSw); go_simp; try with_reducible rfl)
      case hq5a => exact fun _ _ _ h => h
      try simp only [Act.put, List.setIfInBounds_toArray, List.set_cons_zero, List.set_cons_succ]
      refine wpAnyH_take (i := 6) (oi := ?oi6a) (v := ?v6a) ?hi6a (by kernel_rfl) (by kernel_rfl) (by kernel_rfl) ?hq6a ?hy6a (by assumption) ?rest6a
      case hi6a => (simp only [List.getElem?_toArray, List.getElem?_cons_zero, List.getElem?_cons_succ]; rfl)
      case hy6a => (refine Or.inl ⟨by rfl, ?_⟩; intro w hSw; (try dsimp only at hSw); go_simp; try with_reducible rfl)
      case hq6a => exact fun _ _ _ h => h
      try simp only [Act.put, List.setIfInBounds_toArray, List.set_cons_zero, List.set_cons_succ]
      refine wpAnyH_take (i := 7) (oi := ?oi7a) (v := ?v7a) ?hi7a (by kernel_rfl) (by kernel_rfl) (by kernel_rfl) ?hq7a ?hy7a (by assumption) ?rest7a
      case hi7a => (simp only [List.getElem?_toArray, List.getElem?_cons_zero, List.getElem?_cons_succ]; rfl)
      case hy7a => (refine Or.inl ⟨by rfl, ?_⟩; intro w hSw; (try dsimp only at hSw); go_simp; try with_reducible rfl)
      case hq7a => exact fun _ _ _ h => h
      try simp only [Act.put, List.setIfInBounds_toArray, List.set_cons_zero, List.set_cons_succ]
      refine wpAnyH_ready (rs := [8]) (by kernel_rfl) (by simp) ?_
      refine AllReadyH.cons (o := ?o8b) ?ho8b (fun K hK => ?st8b) ?mo8b
      case ho8b => (simp only [List.getElem?_toArray, List.getElem?_cons_zero, List.getElem?_cons_succ]; rfl)
      · skip
        go_simp
        refine HRC.out.mono ?_
        rintro _ w2 ⟨rfl, hb2⟩
        have hbd : Below wr.heap.size wr w2 := (below_drewN (Below.refl _ wr) 1).trans hb2
        have hs2 : (w2.cell? ⟨q1, o1 + n * 2, none⟩ = some (.int .i64 rc.kind) ∧ w2.cell? ⟨q1, o1 + n * 2 + 1, none⟩ = some (.slice b1 rc.body.length e1)) ∧ (w2.cell? ⟨q2, o2 + n * 2, none⟩ = some (.int .i64 rc.kind) ∧ w2.cell? ⟨q2, o2 + n * 2 + 1, none⟩ = some (.slice b2 rc.body.length e2)) :=
          ⟨⟨(hbd.cell (p := ⟨q1, o1 + n * 2, none⟩) hq1).trans x0, (hbd.cell (p := ⟨q1, o1 + n * 2 + 1, none⟩) hq1).trans x1⟩, ⟨(hbd.cell (p := ⟨q2, o2 + n * 2, none⟩) hq2).trans y0, (hbd.cell (p := ⟨q2, o2 + n * 2 + 1, none⟩) hq2).trans y1⟩⟩
        refine hK.out _ _ hs2 (fun _ => ?_)
        have HB2 : Hid (Below w.heap.size w w2) := Lib.hid (HZ.out.trans (hbd.mono HZ.out.size))
        clear hK K hs2 hbd hb2
        try simp only [Act.put, List.setIfInBounds_toArray, List.set_cons_zero, List.set_cons_succ]
        refine wpAnyH_take (i := 9) (oi := ?oi9c) (v := ?v9c) ?hi9c (by kernel_rfl) (by kernel_rfl) (by kernel_rfl) ?hq9c ?hy9c (by assumption) ?rest9c
        case hi9c => (simp only [List.getElem?_toArray, List.getElem?_cons_zero, List.getElem?_cons_succ]; rfl)
        case hy9c => (refine Or.inl ⟨by rfl, ?_⟩; intro w hSw; (try dsimp only at hSw); go_simp; try with_reducible rfl)
        case hq9c => exact fun _ _ _ h => h
        try simp only [Act.put, List.setIfInBounds_toArray, List.set_cons_zero, List.set_cons_succ]
        refine wpAnyH_done (by kernel_rfl) ?_ _
        go_wp2_with fail
        go_roundw
        case rel => exact ⟨n + 1, by omega, by go_num, HB2⟩
        case measure => simp [intOf] <;> omega
      exact AllReadyH.nil
    · obtain rfl : n = m := by omega
      have dli : decide ((n : Int) < (n : Int)) = false := by simp
      go_wp2_with fail
      go_ret
      exact ⟨rfl, HZ.out⟩
set_option maxRecDepth 100000 in
set_option maxHeartbeats 1600000 in
theorem writes_yes {w : World} {A1 A2 : Option Addr} {m c1 c2 : Nat} {ws : List Wr} (h1 : WsAt w A1 m ws) (h2 : WsAt w A2 m ws) (hm : m ≤ 4611686018427387904) :
    Calls Tryd.prog 21 #[.slice A1 m c1, .slice A2 m c2] w fun e w' => e = .returned (.bool true) ∧ Below w.heap.size w w' := by
  have HL := Lib.hid h1.len
  have H1 := Lib.hid h1
  have H2 := Lib.hid h2
  have HB0 := Lib.hid (Below.refl w.heap.size w)
  clear h1 h2
  go_enter Tryd.func21, Tryd.ntmps21
  go_wp2_with fail
  go_loopw [5] (fun i wr => ∃ n : Nat, n ≤ m ∧ i = .int .i64 (n : Int) ∧ Hid (Below w.heap.size w wr)) (fun i _ => m - (intOf i).toNat)
  case atStart => exact ⟨0, by omega, rfl, HB0⟩
  case round =>
    obtain ⟨n, hn, rfl, HZ⟩ := hrel
    by_cases hlt : n < m
    · have hI : (n : Int) < (m : Int) := by omega
      obtain ⟨x, hx⟩ : ∃ x, ws[n]? = some x := ⟨ws[n]'(by rw [← HL.out]; exact hlt), List.getElem?_eq_getElem _⟩
      obtain ⟨q1, o1, b1, e1, rfl, hq1, x0, x1, x2, hr1, _⟩ := (H1.out.below HZ.out).at_ n x hx
      obtain ⟨q2, o2, b2, e2, rfl, hq2, y0, y1, y2, hr2, _⟩ := (H2.out.below HZ.out).at_ n x hx
      have HRC := Lib.hid (same_c b1 b2 x.bs.length x.bs.length e1 e2 _ _ x.bs wr.drew (hr1.dn 1) (hr2.dn 1))
      clear hr1 hr2 hx
      go_upto_region 6 with fail
      refine wp_region_held_drew (S := fun W => (W.cell? ⟨q1, o1 + n * 3, none⟩ = some (.int .i64 x.file) ∧ W.cell? ⟨q1, o1 + n * 3 + 1, none⟩ = some (.bool x.start) ∧ W.cell? ⟨q1, o1 + n * 3 + 2, none⟩ = some (.slice b1 x.bs.length e1)) ∧ (W.cell? ⟨q2, o2 + n * 3, none⟩ = some (.int .i64 x.file) ∧ W.cell? ⟨q2, o2 + n * 3 + 1, none⟩ = some (.bool x.start) ∧ W.cell? ⟨q2, o2 + n * 3 + 2, none⟩ = some (.slice b2 x.bs.length e2))) (by kernel_rfl) (⟨⟨x0, x1, x2⟩, ⟨y0, y1, y2⟩⟩) (fun hsw => ?_)
      refine wpAnyH_take (i := 0) (oi := ?oi0wa) (v := ?v0wa) ?hi0wa (by kernel_rfl) (by kernel_rfl) (by kernel_rfl) ?hq0wa ?hy0wa (by assumption) ?rest0wa
      case hi0wa => (simp only [List.getElem?_toArray, List.getElem?_cons_zero]; rfl)
      case hy0wa => (refine Or.inl ⟨by rfl, ?_⟩; intro w hSw; (try dsimp only at hSw); go_simp; try with_reducible rfl)
      case hq0wa => exact fun _ _ _ h => h
      try simp only [Act.put, List.setIfInBounds_toArray, List.set_cons_zero, List.set_cons_succ]
      refine wpAnyH_take (i := 1) (oi := ?oi1wa) (v := ?v1wa) ?hi1wa (by kernel_rfl) (by kernel_rfl) (by kernel_rfl) ?hq1wa ?hy1wa (by assumption) ?rest1wa
      case hi1wa => (simp only [List.getElem?_toArray, List.getElem?_cons_zero, List.getElem?_cons_succ]; rfl)
      case hy1wa => (refine Or.inl ⟨by rfl, ?_⟩; intro w hSw; (try dsimp only at hSw); go_simp; try with_reducible rfl)
      case hq1wa => exact fun _ _ _ h => h
      try simp only [Act.put, List.setIfInBounds_toArray, List.set_cons_zero, List.set_cons_succ]
      refine wpAnyH_take (i := 2) (oi := ?oi2wa) (v := ?v2wa) ?hi2wa (by kernel_rfl) (by kernel_rfl) (by kernel_rfl) ?hq2wa ?hy2wa (by assumption) ?rest2wa
      case hi2wa => (simp only [List.getElem?_toArray, List.getElem?_cons_zero, List.getElem?_cons_succ]; rfl)
      case hy2wa => (refine Or.inl ⟨by rfl, ?_⟩; intro w hSw; (try dsimp only at hSw); go_simp; try with_reducible rfl)
      case hq2wa => exact fun _ _ _ h => h
      try simp only [Act.put, List.setIfInBounds_toArray, List.set_cons_zero, List.set_cons_succ]
      refine wpAnyH_take (i := 3) (oi := ?oi3wa) (v := ?v3wa) ?hi3wa (by kernel_rfl) (by kernel_rfl) (by kernel_rfl) ?hq3wa ?hy3wa (by assumption) ?rest3wa
      case hi3wa => (simp only [List.getElem?_toArray, List.getElem?_cons_zero, List.getElem?_cons_succ]; rfl)
      case hy3wa => (refine Or.inl ⟨by rfl, ?_⟩; intro w hSw; (try dsimp only at hSw); go_simp; try with_reducible rfl)
      case hq3wa => exact fun _ _ _ h => h
      try simp only [Act.put, List.setIfInBounds_toArray, List.set_cons_zero, List.set_cons_succ]
      refine wpAnyH_take (i := 4) (oi := ?oi4wa) (v := ?v4wa) ?hi4wa (by kernel_rfl) (by kernel_rfl) (by kernel_rfl) ?hq4wa ?hy4wa (by assumption) ?rest4wa
      case hi4wa => (simp only [List.getElem?_toArray, List.getElem?_cons_zero, List.getElem?_cons_succ]; rfl)
      case hy4wa => (refine Or.inl ⟨by rfl, ?_⟩; intro w hSw; (try dsimp only at hSw); go_simp; try with_reducible rfl)
      case hq4wa => exact fun _ _ _ h => h
      try simp only [Act.put, List.setIfInBounds_toArray, List.set_cons_zero, List.set_cons_succ]
      refine wpAnyH_take (i := 5) (oi := ?oi5wa) (v := ?v5wa) ?hi5wa (by kernel_rfl) (by kernel_rfl) (by kernel_rfl) ?hq5wa ?hy5wa (by assumption) ?rest5wa
      case hi5wa => (simp only [List.getElem?_toArray, List.getElem?_cons_zero, List.getElem?_cons_succ]; rfl)
      case hy5wa => (refine Or.inl ⟨by rfl, ?_⟩; intro w hSw; (try dsimp only at hSw); go_simp; try with_reducible rfl)
      case hq5wa => exact fun _ _ _ h => h
      try simp only [Act.put, List.setIfInBounds_toArray, List.set_cons_zero, List.set_cons_succ]
      refine wpAnyH_take (i := 6) (oi := ?oi6wa) (v := ?v6wa) ?hi6wa (by kernel_rfl) (by kernel_rfl) (by kernel_rfl) ?hq6wa ?hy6wa (by assumption) ?rest6wa
      case hi6wa => (simp only [List.getElem?_toArray, List.getElem?_cons_zero, List.getElem?_cons_succ]; rfl)
      case hy6wa => (refine Or.inl ⟨by rfl, ?_⟩; intro w hSw; (try dsimp only at hSw); go_simp; try with_reducible rfl)
      case hq6wa => exact fun _ _ _ h => h
      try simp only [Act.put, List.setIfInBounds_toArray, List.set_cons_zero, List.set_cons_succ]
      refine wpAnyH_take (i := 7) (oi := ?oi7wa) (v := ?v7wa) ?hi7wa (by kernel_rfl) (by kernel_rfl) (by kernel_rfl) ?hq7wa ?hy7wa (by assumption) ?rest7wa
      case hi7wa => (simp only [List.getElem?_toArray, List.getElem?_cons_zero, List.getElem?_cons_succ]; rfl)
      case hy7wa => (refine Or.inl ⟨by rfl, ?_⟩; intro w hSw; (try dsimp only at hSw); go_simp; try with_reducible rfl)
      case hq7wa => exact fun _ _ _ h => h
      try simp only [Act.put, List.setIfInBounds_toArray, List.set_cons_zero, List.set_cons_succ]
      refine wpAnyH_take (i := 8) (oi := ?oi8wa) (v := ?v8wa) ?hi8wa (by kernel_rfl) (by kernel_rfl) (by kernel_rfl) ?hq8wa ?hy8wa (by assumption) ?rest8wa
      case hi8wa => (simp only [List.getElem?_toArray, List.getElem?_cons_zero, List.getElem?_cons_succ]; rfl)
      case hy8wa => (refine Or.inl ⟨by rfl, ?_⟩; intro w hSw; (try dsimp only at hSw); go_simp; try with_reducible rfl)
      case hq8wa => exact fun _ _ _ h => h
      try simp only [Act.put, List.setIfInBounds_toArray, List.set_cons_zero, List.set_cons_succ]
      refine wpAnyH_take (i := 9) (oi := ?oi9wa) (v := ?v9wa) ?hi9wa (by kernel_rfl) (by kernel_rfl) (by kernel_rfl) ?hq9wa ?hy9wa (by assumption) ?rest9wa
      case hi9wa => (simp only [List.getElem?_toArray, List.getElem?_cons_zero, List.getElem?_cons_succ]; rfl)
      case hy9wa => (refine Or.inl ⟨by rfl, ?_⟩; intro w hSw; (try dsimp only at hSw); go_simp; try with_reducible rfl)
      case hq9wa => exact fun _ _ _ h => h
      try simp only [Act.put, List.setIfInBounds_toArray, List.set_cons_zero, List.set_cons_succ]
      refine wpAnyH_take (i := 10) (oi := ?oi10wa) (v := ?v10wa) ?hi10wa (by kernel_rfl) (by kernel_rfl) (by kernel_rfl) ?hq10wa ?hy10wa (by assumption) ?rest10wa
      case hi10wa => (simp only [List.getElem?_toArray, List.getElem?_cons_zero, List.getElem?_cons_succ]; rfl)
      case hy10wa => (refine Or.inl ⟨by rfl, ?_⟩; intro w hSw; (try dsimp only at hSw); go_simp; try with_reducible rfl)
      case hq10wa => exact fun _ _ _ h => h
      try simp only [Act.put, List.setIfInBounds_toArray, List.set_cons_zero, List.set_cons_succ]
      refine wpAnyH_take (i := 11) (oi := ?oi11wa) (v := ?v11wa) ?hi11wa (by kernel_rfl) (by kernel_rfl) (by kernel_rfl) ?hq11wa ?hy11wa (by assumption) ?rest11wa
      case hi11wa => (simp only [List.getElem?_toArray, List.getElem?_cons_zero, List.getElem?_cons_succ]; rfl)
      case hy11wa => (refine Or.inl ⟨by rfl, ?_⟩; intro w hSw; (try dsimp only at hSw); go_simp; try with_reducible rfl)
      case hq11wa => exact fun _ _ _ h => h
      try simp only [Act.put, List.setIfInBounds_toArray, List.set_cons_zero, List.set_cons_succ]
      refine wpAnyH_take (i := 12) (oi := ?oi12wa) (v := ?v12wa) ?hi12wa (by kernel_rfl) (by kernel_rfl) (by kernel_rfl) ?hq12wa ?hy12wa (by assumption) ?rest12wa
      case hi12wa => (simp only [List.getElem?_toArray, List.getElem?_cons_zero, List.getElem?_cons_succ]; rfl)
      case hy12wa => (refine Or.inl ⟨by rfl, ?_⟩; intro w hSw; (try dsimp only at hSw); go_simp; try with_reducible rfl)
      case hq12wa => exact fun _ _ _ h => h
      try simp only [Act.put, List.setIfInBounds_toArray, List.set_cons_zero, List.set_cons_succ]
      refine wpAnyH_take (i := 13) (oi := ?oi13wa) (v := ?v13wa) ?hi13wa (by kernel_rfl) (by kernel_rfl) (by kernel_rfl) ?hq13wa ?hy13wa (by assumption) ?rest13wa
      case hi13wa => (simp only [List.getElem?_toArray, List.getElem?_cons_zero, List.getElem?_cons_succ]; rfl)
      case hy13wa => (refine Or.inl ⟨by rfl, ?_⟩; intro w hSw; (try dsimp only at hSw); go_simp; try with_reducible rfl)
      case hq13wa => exact fun _ _ _ h => h
      try simp only [Act.put, List.setIfInBounds_toArray, List.set_cons_zero, List.set_cons_succ]
      refine wpAnyH_take (i := 14) (oi := ?oi14wa) (v := ?v14wa) ?hi14wa (by kernel_rfl) (by kernel_rfl) (by kernel_rfl) ?hq14wa ?hy14wa (by assumption) ?rest14wa
      case hi14wa => (simp only [List.getElem?_toArray, List.getElem?_cons_zero, List.getElem?_cons_succ]; rfl)
      case hy14wa => (refine Or.inl ⟨by rfl, ?_⟩; intro w hSw; (try dsimp only at hSw); go_simp; try with_reducible rfl)
      case hq14wa => exact fun _ _ _ h => h
      try simp only [Act.put, List.setIfInBounds_toArray, List.set_cons_zero, List.set_cons_succ]
      refine wpAnyH_take (i := 15) (oi := ?oi15wa) (v := ?v15wa) ?hi15wa (by kernel_rfl) (by kernel_rfl) (by kernel_rfl) ?hq15wa ?hy15wa (by assumption) ?rest15wa
      case hi15wa => (simp only [List.getElem?_toArray, List.getElem?_cons_zero, List.getElem?_cons_succ]; rfl)
      case hy15wa => (refine Or.inl ⟨by rfl, ?_⟩; intro w hSw; (try dsimp only at hSw); go_simp; try with_reducible rfl)
      case hq15wa => exact fun _ _ _ h => h
      try simp only [Act.put, List.setIfInBounds_toArray, List.set_cons_zero, List.set_cons_succ]
      refine wpAnyH_take (i := 16) (oi := ?oi16wa) (v := ?v16wa) ?hi16wa (by kernel_rfl) (by kernel_rfl) (by kernel_rfl) ?hq16wa ?hy16wa (by assumption) ?rest16wa
      case hi16wa => (simp only [List.getElem?_toArray, List.getElem?_cons_zero, List.getElem?_cons_succ]; rfl)
      case hy16wa => (refine Or.inl ⟨by rfl, ?_⟩; intro w hSw; (try dsimp only at hSw); go_simp; try with_reducible rfl)
      case hq16wa => exact fun _ _ _ h => h
      try simp only [Act.put, List.setIfInBounds_toArray, List.set_cons_zero, List.set_cons_succ]
      refine wpAnyH_take (i := 17) (oi := ?oi17wa) (v := ?v17wa) ?hi17wa (by kernel_rfl) (by kernel_rfl) (by kernel_rfl) ?hq17wa ?hy17wa (by assumption) ?rest17wa
      case hi17wa => (simp only [List.getElem?_toArray, List.getElem?_cons_zero, List.getElem?_cons_succ]; rfl)
      case hy17wa => (refine Or.inl ⟨by rfl, ?_⟩; intro w hSw; (try dsimp only at hSw); go_simp; try with_reducible rfl)
      case hq17wa => exact fun _ _ _ h => h
      try simp only [Act.put, List.setIfInBounds_toArray, List.set_cons_zero, List.set_cons_succ]
      refine wpAnyH_take (i := 18) (oi := ?oi18wa) (v := ?v18wa) ?hi18wa (by kernel_rfl) (by kernel_rfl) (by kernel_rfl) ?hq18wa ?hy18wa (by assumption) ?rest18wa
      case hi18wa => (simp only [List.getElem?_toArray, List.getElem?_cons_zero, List.getElem?_cons_succ]; rfl)
      case hy18wa => (refine Or.inl ⟨by rfl, ?_⟩; intro w hSw; (try dsimp only at hSw); go_simp; try with_reducible rfl)
      case hq18wa => exact fun _ _ _ h => h
      try simp only [Act.put, List.setIfInBounds_toArray, List.set_cons_zero, List.set_cons_succ]
      refine wpAnyH_take (i := 19) (oi := ?oi19wa) (v := ?v19wa) ?hi19wa (by kernel_rfl) (by kernel_rfl) (by kernel_rfl) ?hq19wa ?hy19wa (by assumption) ?rest19wa
      case hi19wa => (simp only [List.getElem?_toArray, List.getElem?_cons_zero, List.getElem?_cons_succ]; rfl)
      case hy19wa => (refine Or.inl ⟨by rfl, ?_⟩; intro w hSw; (try dsimp only at hSw); go_simp; try with_reducible rfl)
      case hq19wa => exact fun _ _ _ h => h
      try simp only [Act.put, List.setIfInBounds_toArray, List.set_cons_zero, List.set_cons_succ]
      refine wpAnyH_take (i := 20) (oi := ?oi20wa) (v := ?v20wa) ?hi20wa (by kernel_rfl) (by kernel_rfl) (by kernel_rfl) ?hq20wa ?hy20wa (by assumption) ?rest20wa
      case hi20wa => (simp only [List.getElem?_toArray, List.getElem?_cons_zero, List.getElem?_cons_succ]; rfl)
      case hy20wa => (refine Or.inl ⟨by rfl, ?_⟩; intro w hSw; (try dsimp only at hSw); go_simp; try with_reducible rfl)
      case hq20wa => exact fun _ _ _ h => h
      try simp only [Act.put, List.setIfInBounds_toArray, List.set_cons_zero, List.set_cons_succ]
      refine wpAnyH_take (i := 21) (oi := ?oi21wa) (v := ?v21wa) ?hi21wa (by kernel_rfl) (by kernel_rfl) (by kernel_rfl) ?hq21wa ?hy21wa (by assumption) ?rest21wa
      case hi21wa => (simp only [List.getElem?_toArray, List.getElem?_cons_zero, List.getElem?_cons_succ]; rfl)
      case hy21wa => (refine Or.inl ⟨by rfl, ?_⟩; intro w hSw; (try dsimp only at hSw); go_simp; try with_reducible rfl)
      case hq21wa => exact fun _ _ _ h => h
      try simp only [Act.put, List.setIfInBounds_toArray, List.set_cons_zero, List.set_cons_succ]
      refine wpAnyH_take (i := 22) (oi := ?oi22wa) (v := ?v22wa) ?hi22wa (by kernel_rfl) (by kernel_rfl) (by kernel_rfl) ?hq22wa ?hy22wa (by assumption) ?rest22wa
      case hi22wa => (simp only [List.getElem?_toArray, List.getElem?_cons_zero, List.getElem?_cons_succ]; rfl)
      case hy22wa => (refine Or.inl ⟨by rfl, ?_⟩; intro w hSw; (try dsimp only at hSw); go_simp; try with_reducible rfl)
      case hq22wa => exact fun _ _ _ h => h
      try simp only [Act.put, List.setIfInBounds_toArray, List.set_cons_zero, List.set_cons_succ]
      refine wpAnyH_take (i := 23) (oi := ?oi23wa) (v := ?v23wa) ?hi23wa (by kernel_rfl) (by kernel_rfl) (by kernel_rfl) ?hq23wa ?hy23wa (by assumption) ?rest23wa
      case hi23wa => (simp only [List.getElem?_toArray, List.getElem?_cons_zero, List.getElem?_cons_succ]; rfl)
      case hy23wa => (refine Or.inl ⟨by rfl, ?_⟩; intro w hSw; (try dsimp only at hSw); go_simp; try with_reducible rfl)
      case hq23wa => exact fun _ _ _ h => h
      try simp only [Act.put, List.setIfInBounds_toArray, List.set_cons_zero, List.set_cons_succ]
      refine wpAnyH_take (i := 24) (oi := ?oi24wa) (v := ?v24wa) ?hi24wa (by kernel_rfl) (by kernel_rfl) (by kernel_rfl) ?hq24wa ?hy24wa (by assumption) ?rest24wa
      case hi24wa => (simp only [List.getElem?_toArray, List.getElem?_cons_zero, List.getElem?_cons_succ]; rfl)
      case hy24wa => (refine Or.inl ⟨by rfl, ?_⟩; intro w hSw; (try dsimp only at hSw); go_simp; try with_reducible rfl)
      case hq24wa => exact fun _ _ _ h => h
      try simp only [Act.put, List.setIfInBounds_toArray, List.set_cons_zero, List.set_cons_succ]
      refine wpAnyH_take (i := 25) (oi := ?oi25wa) (v := ?v25wa) ?hi25wa (by kernel_rfl) (by kernel_rfl) (by kernel_rfl) ?hq25wa ?hy25wa (by assumption) ?rest25wa
      case hi25wa => (simp only [List.getElem?_toArray, List.getElem?_cons_zero, List.getElem?_cons_succ]; rfl)
      case hy25wa => (refine Or.inl ⟨by rfl, ?_⟩; intro w hSw; (try dsimp only at hSw); go_simp; try with_reducible rfl)
      case hq25wa => exact fun _ _ _ h => h
      try simp only [Act.put, List.setIfInBounds_toArray, List.set_cons_zero, List.set_cons_succ]
      refine wpAnyH_take (i := 26) (oi := ?oi26wa) (v := ?v26wa) ?hi26wa (by kernel_rfl) (by kernel_rfl) (by kernel_rfl) ?hq26wa ?hy26wa (by assumption) ?rest26wa
      case hi26wa => (simp only [List.getElem?_toArray, List.getElem?_cons_zero, List.getElem?_cons_succ]; rfl)
      case hy26wa => (refine Or.inl ⟨by rfl, ?_⟩; intro w hSw; (try dsimp only at hSw); go_simp; try with_reducible rfl)
      case hq26wa => exact fun _ _ _ h => h
      try simp only [Act.put, List.setIfInBounds_toArray, List.set_cons_zero, List.set_cons_succ]
      refine wpAnyH_take (i := 27) (oi := ?oi27wa) (v := ?v27wa) ?hi27wa (by kernel_rfl) (by kernel_rfl) (by kernel_rfl) ?hq27wa ?hy27wa (by assumption) ?rest27wa
      case hi27wa => (simp only [List.getElem?_toArray, List.getElem?_cons_zero, List.getElem?_cons_succ]; rfl)
      case hy27wa => (refine Or.inl ⟨by rfl, ?_⟩; intro w hSw; (try dsimp only at hSw); go_simp; try with_reducible rfl)
      case hq27wa => exact fun _ _ _ h => h
      try simp only [Act.put, List.setIfInBounds_toArray, List.set_cons_zero, List.set_cons_succ]
      refine wpAnyH_take (i := 28) (oi := ?oi28wa) (v := ?v28wa) ?hi28wa (by kernel_rfl) (by kernel_rfl) (by kernel_rfl) ?hq28wa ?hy28wa (by assumption) ?rest28wa
      case hi28wa => (simp only [List.getElem?_toArray, List.getElem?_cons_zero, List.getElem?_cons_succ]; rfl)
      case hy28wa => (refine Or.inl ⟨by rfl, ?_⟩; intro w hSw; (try dsimp only at hSw); go_simp; try with_reducible rfl)
      case hq28wa => exact fun _ _ _ h => h
      try simp only [Act.put, List.setIfInBounds_toArray, List.set_cons_zero, List.set_cons_succ]
      refine wpAnyH_take (i := 29) (oi := ?oi29wa) (v := ?v29wa) ?hi29wa (by kernel_rfl) (by kernel_rfl) (by kernel_rfl) ?hq29wa ?hy29wa (by assumption) ?rest29wa
      case hi29wa => (simp only [List.getElem?_toArray, List.getElem?_cons_zero, List.getElem?_cons_succ]; rfl)
      case hy29wa => (refine Or.inl ⟨by rfl, ?_⟩; intro w hSw; (try dsimp only at hSw); go_simp; try with_reducible rfl)
      case hq29wa => exact fun _ _ _ h => h
      try simp only [Act.put, List.setIfInBounds_toArray, List.set_cons_zero, List.set_cons_succ]
      refine wpAnyH_take (i := 30) (oi := ?oi30wa) (v := ?v30wa) ?hi30wa (by kernel_rfl) (by kernel_rfl) (by kernel_rfl) ?hq30wa ?hy30wa (by assumption) ?rest30wa
      case hi30wa => (simp only [List.getElem?_toArray, List.getElem?_cons_zero, List.getElem?_cons_succ]; rfl)
      case hy30wa => (refine Or.inl ⟨by rfl, ?_⟩; intro w hSw; (try dsimp only at hSw); go_simp; try with_reducible rfl)
      case hq30wa => exact fun _ _ _ h => h
      try simp only [Act.put, List.setIfInBounds_toArray, List.set_cons_zero, List.set_cons_succ]
      refine wpAnyH_take (i := 31) (oi := ?oi31wa) (v := ?v31wa) ?hi31wa (by kernel_rfl) (by kernel_rfl) (by kernel_rfl) ?hq31wa ?hy31wa (by assumption) ?rest31wa
      case hi31wa => (simp only [List.getElem?_toArray, List.getElem?_cons_zero, List.getElem?_cons_succ]; rfl)
      case hy31wa => (refine Or.inl ⟨by rfl, ?_⟩; intro w hSw; (try dsimp only at hSw); go_simp; try with_reducible rfl)
      case hq31wa => exact fun _ _ _ h => h
      try simp only [Act.put, List.setIfInBounds_toArray, List.set_cons_zero, List.set_cons_succ]
      refine wpAnyH_take (i := 32) (oi := ?oi32wa) (v := ?v32wa) ?hi32wa (by kernel_rfl) (by kernel_rfl) (by kernel_rfl) ?hq32wa ?hy32wa (by assumption) ?rest32wa
      case hi32wa => (simp only [List.getElem?_toArray, List.getElem?_cons_zero, List.getElem?_cons_succ]; rfl)
      case hy32wa => (refine Or.inl ⟨by rfl, ?_⟩; intro w hSw; (try dsimp only at hSw); go_simp; try with_reducible rfl)
      case hq32wa => exact fun _ _ _ h => h
      try simp only [Act.put, List.setIfInBounds_toArray, List.set_cons_zero, List.set_cons_succ]
      refine wpAnyH_take (i := 33) (oi := ?oi33wa) (v := ?v33wa) ?hi33wa (by kernel_rfl) (by kernel_rfl) (by kernel_rfl) ?hq33wa ?hy33wa (by assumption) ?rest33wa
      case hi33wa => (simp only [List.getElem?_toArray, List.getElem?_cons_zero, List.getElem?_cons_succ]; rfl)
      case hy33wa => (refine Or.inl ⟨by rfl, ?_⟩; intro w hSw; (try dsimp only at hSw); go_simp; try with_reducible rfl)
      case hq33wa => exact fun _ _ _ h => h
      try simp only [Act.put, List.setIfInBounds_toArray, List.set_cons_zero, List.set_cons_succ]
      refine wpAnyH_take (i := 34) (oi := ?oi34wa) (v := ?v34wa) ?hi34wa (by kernel_rfl) (by kernel_rfl) (by kernel_rfl) ?hq34wa ?hy34wa (by assumption) ?rest34wa
      case hi34wa => (simp only [List.getElem?_toArray, List.getElem?_cons_zero, List.getElem?_cons_succ]; rfl)
      case hy34wa => (refine Or.inl ⟨by rfl, ?_⟩; intro w hSw; (try dsimp only at hSw); go_simp; try with_reducible rfl)
      case hq34wa => exact fun _ _ _ h => h
      try simp only [Act.put, List.setIfInBounds_toArray, List.set_cons_zero, List.set_cons_succ]
      refine wpAnyH_ready (rs := [35]) (by kernel_rfl) (by simp) ?_
      refine AllReadyH.cons (o := ?o35wb) ?ho35wb (fun K hK => ?st35wb) ?mo35wb
      case ho35wb => (simp only [List.getElem?_toArray, List.getElem?_cons_zero, List.getElem?_cons_succ]; rfl)
      · skip
        go_simp
        refine HRC.out.mono ?_
        rintro _ w2 ⟨rfl, rfl⟩
        refine hK.out _ _ hsw (fun _ => ?_)
        have HB2 : Hid (Below w.heap.size w wr.drew) := Lib.hid (below_drewN HZ.out 1)
        clear hK K
        try simp only [Act.put, List.setIfInBounds_toArray, List.set_cons_zero, List.set_cons_succ]
        refine wpAnyH_take (i := 36) (oi := ?oi36wc) (v := ?v36wc) ?hi36wc (by kernel_rfl) (by kernel_rfl) (by kernel_rfl) ?hq36wc ?hy36wc (by assumption) ?rest36wc
        case hi36wc => (simp only [List.getElem?_toArray, List.getElem?_cons_zero, List.getElem?_cons_succ]; rfl)
        case hy36wc => (refine Or.inl ⟨by rfl, ?_⟩; intro w hSw; (try dsimp only at hSw); go_simp; try with_reducible rfl)
        case hq36wc => exact fun _ _ _ h => h
        try simp only [Act.put, List.setIfInBounds_toArray, List.set_cons_zero, List.set_cons_succ]
        refine wpAnyH_take (i := 37) (oi := ?oi37wc) (v := ?v37wc) ?hi37wc (by kernel_rfl) (by kernel_rfl) (by kernel_rfl) ?hq37wc ?hy37wc (by assumption) ?rest37wc
        case hi37wc => (simp only [List.getElem?_toArray, List.getElem?_cons_zero, List.getElem?_cons_succ]; rfl)
        case hy37wc => (refine Or.inl ⟨by rfl, ?_⟩; intro w hSw; (try dsimp only at hSw); go_simp; try with_reducible rfl)
        case hq37wc => exact fun _ _ _ h => h
        try simp only [Act.put, List.setIfInBounds_toArray, List.set_cons_zero, List.set_cons_succ]
        refine wpAnyH_done (by kernel_rfl) ?_ _
        go_wp2_with fail
        go_roundw
        case rel => exact ⟨n + 1, by omega, by go_num, HB2⟩
        case measure => simp [intOf] <;> omega
      exact AllReadyH.nil
    · obtain rfl : n = m := by omega
      have dli : decide ((n : Int) < (n : Int)) = false := by simp
      go_wp2_with fail
      go_ret
      exact ⟨rfl, HZ.out⟩
theorem RcOwn.shapeN {w : World} {base : Nat} {v : Value} {K : List Rk} {recs : List Rc} (h : RcOwn w base v K) (hm : K.map Rk.rc = recs) : ∃ A cap, v = .slice A recs.length cap := by
  obtain ⟨A, cap, e, _, _⟩ := h.shape
  exact ⟨A, cap, by rw [e, ← hm, List.length_map]⟩
theorem RcOwn.rdN {w : World} {base : Nat} {A : Option Addr} {cap : Nat} {K : List Rk} {recs : List Rc} (h : RcOwn w base (.slice A recs.length cap) K) (hm : K.map Rk.rc = recs) : RcRd w (fun _ => False) A recs.length recs := by
  subst hm
  rw [List.length_map] at h ⊢
  exact h.rd fun _ _ _ h => h
theorem WOut.shapeN {w : World} {base : Nat} {v : Value} {ws : List Wr} (h : WOut w base v ws) : ∃ A cap, v = .slice A ws.length cap := by
  obtain ⟨A, n, cap, e, hw⟩ := h.wsAt
  exact ⟨A, cap, by rw [e, hw.len]⟩
theorem WOut.wsN {w : World} {base n cap : Nat} {A : Option Addr} {ws : List Wr} (h : WOut w base (.slice A n cap) ws) : WsAt w A n ws := by
  obtain ⟨A', n', cap', e, hw⟩ := h.wsAt
  injection e with e1 e2 e3
  subst e1 e2
  exact hw
theorem WOut.few {w : World} {base : Nat} {v : Value} {ws : List Wr} (h : WOut w base v ws) : ws.length ≤ 1 := by
  rcases h with ⟨rfl, _⟩ | ⟨x, _, _, _, rfl, _⟩ <;> simp
theorem num_c {w : World} (i : Int) : Calls Tryd.prog 20 #[.int .i64 i] w fun e w' => e = .returned (.int .i64 i) ∧ w = w' := (num_any i).mono fun _ _ h => ⟨h.1, h.2.symm⟩
theorem Size_c {w : World} {jg : Nat} {j : JP} (h : PJAt w jg j) : Calls Tryd.prog 22 #[.pointer (some ⟨jg, 0, none⟩)] w fun e w' => e = .returned (.int .i64 ((j.text.length : Nat) : Int)) ∧ w = w' := (Size_any h).mono fun _ _ h => ⟨h.1, h.2.symm⟩
theorem Generation_c {w : World} {jg : Nat} {j : JP} (h : PJAt w jg j) : Calls Tryd.prog 24 #[.pointer (some ⟨jg, 0, none⟩)] w fun e w' => e = .returned (.int .i64 (j.gen : Int)) ∧ w = w' := (Generation_any h).mono fun _ _ h => ⟨h.1, h.2.symm⟩
theorem wsAt_nil (w : World) (A : Option Addr) : WsAt w A 0 [] := ⟨rfl, fun k x h => by simp at h⟩
end Go.Proofs.YtpkdalpjfcopbaaDoor
