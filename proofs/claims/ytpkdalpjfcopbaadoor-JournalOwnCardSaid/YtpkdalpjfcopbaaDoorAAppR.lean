/-
  JournalApplies: the document's Apply, walked.
-/
import Derived.Test.YtpkdalpjfcopbaaDoorAFil
namespace Go.Proofs.YtpkdalpjfcopbaaDoor
open Go.RowKit
/-- The document's Apply ahead of a write. -/
structure OutR (w : World) (R D T : Nat) (ws : List Wr) (k : Int) (f : Fls) (j mm : Nat) (lf : Int) (g : Fls) (wr : World) : Prop where
  st : ∃ v0 v1, ApSt w R D T wr v0 v1 g
  go : apG (decide (k < 0)) (ws.drop j) mm g = apD ws k f
  len : g.a.length + g.b.length + costW (ws.drop j) ≤ 13194139533312
  left : 0 ≤ k → lf = (mm : Int)
  mmk : mm ≤ k.toNat
/-- Within a write: the file's number i, what it holds at first l, q bytes of bs are behind it; m1 steps were left. -/
structure InR (w : World) (R D T X : Nat) (cs : Array Value) (k : Int) (i : Int) (bs : List UInt8) (m1 : Nat) (q : Nat) (lf : Int) (g : Fls) (wr : World) : Prop where
  st : ∃ v0 v1, ApSt w R D T wr v0 v1 (g.put i (g.get i ++ bs.take q))
  box : Blk wr X 94 cs
  left : 0 ≤ k → lf = (m1 : Int) - (q : Int) ∧ q ≤ m1
theorem take_snoc {l : List UInt8} {q : Nat} {c : UInt8} (h : l[q]? = some c) : l.take q ++ [c] = l.take (q + 1) := by
  rw [List.take_add_one, h]
  rfl
/-- One byte more is behind it. -/
theorem InR.step {w : World} {R D X : Nat} {cs : Array Value} {k : Int} {fi : Nat} {bs : List UInt8} {m1 q : Nat} {lf : Int} {g : Fls} {wr : World} (h : InR w R D 112 X cs k (fi : Int) bs m1 q lf g wr)
    (hi : (fi : Int) = 0 ∨ (fi : Int) = 1) (hX : X ≠ D) {c : UInt8} (hq : bs[q]? = some c) {wd : World} (hb : Below wr.heap.size wr wd) {lf3 : Int} (hl : 0 ≤ k → lf3 = (m1 : Int) - ((q + 1 : Nat) : Int) ∧ q + 1 ≤ m1) :
    ∃ A5 c5, (∀ W, Below wr.heap.size wr W → W.cell? ⟨D, fi, none⟩ = some (.slice A5 (g.get (fi : Int) ++ bs.take q).length c5)) ∧ wd.ownsRow w.heap.size 5 1 (.slice A5 (g.get (fi : Int) ++ bs.take q).length c5) (g.get (fi : Int) ++ bs.take q).length (bvs (g.get (fi : Int) ++ bs.take q)) ∧
      ∀ u w6, w6.ownsRow w.heap.size 5 1 u ((g.get (fi : Int) ++ bs.take q).length + 1) (bvs (g.get (fi : Int) ++ bs.take q) ++ [.int .u8 (c.toNat : Int)]) → Chg (fun k => some k = (Value.slice A5 (g.get (fi : Int) ++ bs.take q).length c5).ownBlock) wd w6 →
        (∀ g', u.ownBlock = some g' → (Value.slice A5 (g.get (fi : Int) ++ bs.take q).length c5).ownBlock = some g' ∨ wd.heap.size ≤ g') →
        w6.frozen? ⟨D, fi, none⟩ = false ∧ w6.cell? ⟨D, fi, none⟩ = some (.slice A5 (g.get (fi : Int) ++ bs.take q).length c5) ∧ Blk w6 X 94 cs ∧ Below w.heap.size w w6 ∧ InR w R D 112 X cs k (fi : Int) bs m1 (q + 1) lf3 g (w6.setCell ⟨D, fi, none⟩ u) := by
  obtain ⟨va, vb, hst⟩ := h.st
  have hstd := hst.over hb
  have hown := hstd.fl.own (fi : Int)
  have hcl := fun W (hW : Below wr.heap.size wr W) => (hst.over hW).fl.cell hi
  obtain ⟨vf, hvf⟩ : ∃ vf, vf = vget va vb (fi : Int) := ⟨_, rfl⟩
  rw [Fls.get_put, ← hvf] at hown
  simp only [Int.toNat_natCast] at hcl
  rw [← hvf] at hcl
  obtain ⟨A5, c5, hv5, _, _⟩ := own_shape hown
  subst hv5
  refine ⟨A5, c5, hcl, hown, fun u w6 ho hc hu => ?_⟩
  rw [hvf] at hc hu
  have hB4 := hstd.blk4 hi hc
  have hD6 : w6.cell? ⟨D, fi, none⟩ = some (vget va vb (fi : Int)) := by
    rw [hB4.cell]
    have := hstd.fl.cell hi
    rw [hstd.fl.blk.cell, Int.toNat_natCast] at this
    exact this
  have hbw6 : Below w.heap.size w w6 := hstd.below.trans (hc.to_below hstd.below.size fun k e => (hstd.fl.off (fi : Int) e.symm).2.2)
  have hX6 := hstd.box (h.box.over hb) (by decide) (fi : Int) hc
  have hl2 : (g.get (fi : Int) ++ bs.take (q + 1)).length = (g.get (fi : Int) ++ bs.take q).length + 1 := by
    rw [← take_snoc hq]
    simp
    omega
  have hl3 : bvs (g.get (fi : Int) ++ bs.take (q + 1)) = bvs (g.get (fi : Int) ++ bs.take q) ++ [.int .u8 (c.toNat : Int)] := by
    rw [← take_snoc hq, ← List.append_assoc, bvs_append _ [c]]
    rfl
  have hput := hstd.put (l := g.get (fi : Int) ++ bs.take (q + 1)) hi (by rw [hl2, hl3]; exact ho) hc hu
  rw [Fls.put_put, Int.toNat_natCast] at hput
  refine ⟨hB4.frozen fi, by rw [hvf]; exact hD6, hX6, hbw6, ⟨⟨_, _, hput⟩, hX6.far hX _, hl⟩⟩
set_option maxRecDepth 100000 in
set_option maxHeartbeats 3200000 in
theorem RApply_any {w : World} (A : Option Addr) (n cap : Nat) (ws : List Wr) (DA DB : Option Addr) (ca cb : Nat) (f : Fls) (k : Int) (h : WsAt w A n ws) (hc : costW ws ≤ 4398046511104) (hn : n ≤ 1099511627776)
    (ha : RdB w w.heap.size DA f.a.length f.a) (hb : RdB w w.heap.size DB f.b.length f.b) (hla : f.a.length ≤ 4398046511104) (hlb : f.b.length ≤ 4398046511104) (hk63 : k ≤ 9223372036854775807) :
    Calls Tryd.prog 77 #[.agg #[.slice DA f.a.length ca, .slice DB f.b.length cb], .slice A n cap, .int .i64 k] w (GivesF w (apD ws k f)) := by
  obtain ⟨i0, hi0, hz0, hz1, hz2⟩ := info_parts info_u8
  have H := Lib.hid h
  have HLN : Hid (n = ws.length) := Lib.hid h.len
  clear h
  obtain ⟨w1, hw1⟩ : ∃ w1, w1 = w.alloc (.cells #[.slice DA f.a.length ca, .slice DB f.b.length cb] 24) := ⟨_, rfl⟩
  obtain ⟨w2, hw2⟩ : ∃ w2, w2 = w1.alloc (.cells #[.slice none 0 0, .slice none 0 0] 24) := ⟨_, rfl⟩
  obtain ⟨w3, hw3⟩ : ∃ w3, w3 = w2.alloc (.cells #[.slice none 0 0, .slice none 0 0] 112) := ⟨_, rfl⟩
  have hs1 : w1.heap.size = w.heap.size + 1 := by rw [hw1]; simp
  have hs2 : w2.heap.size = w.heap.size + 1 + 1 := by rw [hw2]; simp [hs1]
  have hb1 : Below w.heap.size w w1 := by rw [hw1]; exact one_box' w _
  have hb2 : Below w1.heap.size w1 w2 := by rw [hw2]; exact one_box' w1 _
  have hb3 : Below w2.heap.size w2 w3 := by rw [hw3]; exact one_box' w2 _
  have hX : Blk w3 w.heap.size 24 #[.slice DA f.a.length ca, .slice DB f.b.length cb] := by
    have := Blk.new w 24 #[.slice DA f.a.length ca, .slice DB f.b.length cb]
    rw [← hw1] at this
    exact (this.over hb2).over hb3
  have hR : Blk w3 (w.heap.size + 1) 24 #[.slice none 0 0, .slice none 0 0] := by
    have := Blk.new w1 24 #[.slice none 0 0, .slice none 0 0]
    rw [← hw2, hs1] at this
    exact this.over hb3
  have hD : Blk w3 (w.heap.size + 1 + 1) 112 #[.slice none 0 0, .slice none 0 0] := by
    have := Blk.new w2 112 #[.slice none 0 0, .slice none 0 0]
    rw [← hw3, hs2] at this
    exact this
  have hb03 : Below w.heap.size w w3 := (hb1.trans (hb2.mono hb1.size)).trans (hb3.mono (by omega))
  have hnil : ∀ w' : World, w'.ownsRow w.heap.size 5 1 (.slice none 0 0) 0 [] := fun _ => ⟨by simp, .inl ⟨rfl, rfl⟩⟩
  have HNIL := Lib.hid hnil
  have HS3 : Hid (ApSt w (w.heap.size + 1) (w.heap.size + 1 + 1) 112 w3 (.slice none 0 0) (.slice none 0 0) ⟨[], []⟩) :=
    Lib.hid ⟨⟨hD, by omega, hnil _, hnil _, by decide, fun g e => by simp [Value.ownBlock] at e⟩, hR, ⟨by omega, by omega⟩, hb03⟩
  have x0 : w3.cell? ⟨w.heap.size, 0, none⟩ = some (.slice DA f.a.length ca) := hX.cell 0
  have d0 : w3.cell? ⟨w.heap.size + 1 + 1, 0, none⟩ = some (.slice none 0 0) := hD.cell 0
  have HX3 := Lib.hid hX
  have HRA : Hid (∀ W, Below w.heap.size w W → RdB W w.heap.size DA f.a.length f.a) := Lib.hid fun W hW => ha.below hW
  have HRB : Hid (∀ W, Below w.heap.size w W → RdB W w.heap.size DB f.b.length f.b) := Lib.hid fun W hW => hb.below hW
  have HW1 := Lib.hid hw1
  have HW2 := Lib.hid hw2
  have HW3 := Lib.hid hw3
  have hsz3 : w.heap.size ≤ w3.heap.size := hb03.size
  clear hw1 hw2 hw3 hs1 hs2 hb1 hb2 hb3 hX hR hD hb03 hnil ha hb
  go_enter Tryd.func77, Tryd.ntmps77
  go_upto_region 2 with fail
  rw [← HW1.out]
  rw [← HW2.out]
  rw [← HW3.out]
  go_upto_region 3 with
    (at_builtin
     refine wpList_append_any _ (by rfl) _ _ 22 (by rfl) w.heap.size 5 i0 _ 1 1 u_bytes hi0 hz0 hz1 hz2 rfl (by decide) _ 0 [] (by rfl) (HNIL.out w3) w.heap.size DA f.a.length ca (bvs f.a) (by rfl) (HRA.out _ HS3.out.below) (bvs_one _) (by simp only [maxLen]; omega) (by omega) hsz3 ?_
     intro u4 w4 hown4 hg4 hat4
     rw [Nat.zero_add, List.nil_append] at hown4
     have hD4 := HS3.out.blk4 (i := 0) (.inl rfl) (Chg.of_grown hg4)
     have q4 := hD4.frozen 0
     have d4 : w4.cell? ⟨w.heap.size + 1 + 1, 0, none⟩ = some (.slice none 0 0) := hD4.cell 0
     have HS5 := Lib.hid (HS3.out.put (i := 0) (.inl rfl) hown4 (Chg.of_grown hg4) (hat_new hat4 rfl))
     have HX5 := Lib.hid (HX3.out.chg (Chg.of_grown hg4) (fun e => by simp [Value.ownBlock] at e))
     obtain ⟨A4, c4, rfl, _, _⟩ := own_shape hown4
     clear hown4 hg4 hat4 hD4)
  obtain ⟨w5, hw5⟩ : ∃ w5, w5 = w4.setCell ⟨w.heap.size + 1 + 1, 0, none⟩ (.slice A4 f.a.length c4) := ⟨_, rfl⟩
  have HW5 := Lib.hid hw5
  rw [← hw5]
  have hS5 : ApSt w (w.heap.size + 1) (w.heap.size + 1 + 1) 112 w5 (.slice A4 f.a.length c4) (.slice none 0 0) ⟨f.a, []⟩ := by rw [hw5]; exact HS5.out
  have hX5 : Blk w5 w.heap.size 24 #[.slice DA f.a.length ca, .slice DB f.b.length cb] := by rw [hw5]; exact HX5.out.far (by simp; omega) _
  have x1 : w5.cell? ⟨w.heap.size, 1, none⟩ = some (.slice DB f.b.length cb) := hX5.cell 1
  have d1 : w5.cell? ⟨w.heap.size + 1 + 1, 1, none⟩ = some (.slice none 0 0) := hS5.fl.blk.cell 1
  have HS6 := Lib.hid hS5
  have hsz5 := hS5.below.size
  clear hw5 hS5 hX5 HS5 HX5 q4 d4 HS3 HX3 x0 d0 hsz3
  go_upto_region 4 with
    (at_builtin
     refine wpList_append_any _ (by rfl) _ _ 22 (by rfl) w.heap.size 5 i0 _ 1 1 u_bytes hi0 hz0 hz1 hz2 rfl (by decide) _ 0 [] (by rfl) (HNIL.out w5) w.heap.size DB f.b.length cb (bvs f.b) (by rfl) (HRB.out _ HS6.out.below) (bvs_one _) (by simp only [maxLen]; omega) (by omega) hsz5 ?_
     intro u6 w6 hown6 hg6 hat6
     rw [Nat.zero_add, List.nil_append] at hown6
     have hD6 := HS6.out.blk4 (i := 1) (.inr rfl) (Chg.of_grown hg6)
     have q6 := hD6.frozen 1
     have d6 : w6.cell? ⟨w.heap.size + 1 + 1, 1, none⟩ = some (.slice none 0 0) := hD6.cell 1
     have HS7 := Lib.hid (HS6.out.put (i := 1) (.inr rfl) hown6 (Chg.of_grown hg6) (hat_new hat6 rfl))
     obtain ⟨A6, c6, rfl, _, _⟩ := own_shape hown6
     clear hown6 hg6 hat6 hD6)
  obtain ⟨w7, hw7⟩ : ∃ w7, w7 = w6.setCell ⟨w.heap.size + 1 + 1, 1, none⟩ (.slice A6 f.b.length c6) := ⟨_, rfl⟩
  rw [← hw7]
  have HS8 : Hid (∃ v0 v1, ApSt w (w.heap.size + 1) (w.heap.size + 1 + 1) 112 w7 v0 v1 f) := Lib.hid ⟨_, _, by rw [hw7]; exact HS7.out⟩
  clear hw7 HS7 q6 d6 HS6 HW5 x1 d1 hsz5
  generalize hR : w.heap.size + 1 = R at *
  generalize hD : R + 1 = D at *
  clear HW1 HW2 HW3
  have HRD : Hid (w.heap.size ≤ R ∧ w.heap.size ≤ D ∧ R ≠ D) := Lib.hid ⟨by omega, by omega, by omega⟩
  clear hR hD
  go_wp2_with fail
  go_loopw [8, 9, 10, 11] (fun l i _ _ wr => ∃ (j mm : Nat) (lf : Int) (g : Fls), j ≤ n ∧ i = .int .i64 (j : Int) ∧ l = .int .i64 lf ∧ Hid (OutR w R D 112 ws k f j mm lf g wr)) (fun _ i _ _ _ => n - (intOf i).toNat)
  case atStart => exact ⟨0, k.toNat, k, f, by omega, rfl, rfl, Lib.hid ⟨HS8.out, (apD_apG ws k f).symm, by rw [List.drop_zero]; omega, fun h => (by omega), Nat.le_refl _⟩⟩
  case round =>
    clear HS8
    obtain ⟨j, mm, lf, g, hj, rfl, rfl, HO⟩ := hrel
    by_cases hlt : j < n
    · skip
      have hI : (j : Int) < (n : Int) := by omega
      obtain ⟨x, hx⟩ : ∃ x, ws[j]? = some x := ⟨ws[j]'(by rw [← HLN.out]; exact hlt), List.getElem?_eq_getElem _⟩
      have hdr : ws.drop j = x :: ws.drop (j + 1) := by
        obtain ⟨hl, rfl⟩ := List.getElem?_eq_some_iff.1 hx
        exact List.drop_eq_getElem_cons hl
      obtain ⟨v0, v1, hst⟩ := HO.out.st
      obtain ⟨gb, o, bA, bc, rfl, hgb, c0, c1, c2, hr, _⟩ := H.out.at_ j x hx
      rw [← hst.below.cell (p := ⟨gb, o + j * 3, none⟩) hgb] at c0
      rw [← hst.below.cell (p := ⟨gb, o + j * 3 + 1, none⟩) hgb] at c1
      rw [← hst.below.cell (p := ⟨gb, o + j * 3 + 2, none⟩) hgb] at c2
      have HHR : Hid (∀ W, Below w.heap.size w W → RdB W w.heap.size bA x.bs.length x.bs) := Lib.hid fun W hW => hr.below hW
      have hXB := Blk.new wr 94 #[.int .i64 x.file, .bool x.start, .slice bA x.bs.length bc]
      have hbx := one_box' wr (.cells #[.int .i64 x.file, .bool x.start, .slice bA x.bs.length bc] 94)
      obtain ⟨wx, hwx⟩ : ∃ wx, wx = wr.alloc (.cells #[.int .i64 x.file, .bool x.start, .slice bA x.bs.length bc] 94) := ⟨_, rfl⟩
      rw [← hwx] at hXB hbx
      have HWX := Lib.hid hwx
      have hsx := hst.over hbx
      have z0 : wx.cell? ⟨wr.heap.size, 0, none⟩ = some (.int .i64 x.file) := hXB.cell 0
      have z1 : wx.cell? ⟨wr.heap.size, 1, none⟩ = some (.bool x.start) := hXB.cell 1
      have HXB := Lib.hid hXB
      have HXD : Hid (wr.heap.size ≠ D) := Lib.hid fun e => by have := hst.fl.blk.lt; omega
      have HDR := Lib.hid hdr
      clear hwx hXB hbx hx hdr hr hst
      go_upto_region 9 with fail
      rw [← HWX.out]
      clear c0 c1 c2 HWX
      by_cases hok : x.ok = true
      · obtain ⟨fi, hfi, hfi2⟩ : ∃ fi : Nat, x.file = (fi : Int) ∧ (fi = 0 ∨ fi = 1) := by
          rcases wr_ok.1 hok with e | e
          · exact ⟨0, e, .inl rfl⟩
          · exact ⟨1, e, .inr rfl⟩
        have hib : ((fi : Int) = 0 ∨ (fi : Int) = 1) := by omega
        have hf2 : (fi : Int) < 2 := by omega
        rw [hfi] at z0 HXB
        have HFI := Lib.hid hfi
        have hbb : ((fi : Int) != 0) = false ∨ (((fi : Int) != 0) = true ∧ ((fi : Int) != 1) = false) := by
          rcases hfi2 with rfl | rfl
          · exact .inl rfl
          · exact .inr ⟨rfl, rfl⟩
        have HIB := Lib.hid hib
        have HOK := Lib.hid hok
        have hcost : x.bs.length + costW (ws.drop (j + 1)) ≤ costW (ws.drop j) := by
          rw [HDR.out, costW_cons]
          unfold Wr.cost
          rw [if_pos hok]
          omega
        have HLEN : Hid ((x.first g).a.length + (x.first g).b.length + x.bs.length + costW (ws.drop (j + 1)) ≤ 13194139533312) := Lib.hid (by
          have h1 := HO.out.len
          have h2 := x.first_len g
          omega)
        have hways : (x.start = true ∧ 0 < lf) ∨ (x.start = true ∧ ¬ 0 < lf ∧ k < 0) ∨ x.start = false ∨ (x.start = true ∧ ¬ 0 < lf ∧ ¬ k < 0) := by
          cases x.start <;> simp <;> omega
        have hsd0 := hsx.fl.cell hib
        rw [Int.toNat_natCast] at hsd0
        obtain ⟨vf, hvf⟩ : ∃ vf, vf = vget v0 v1 (fi : Int) := ⟨_, rfl⟩
        rw [← hvf] at hsd0
        have qd0 : wx.frozen? ⟨D, fi, none⟩ = false := hsx.fl.blk.frozen fi
        have HSX := Lib.hid hsx
        have HNIL2 : Hid (ApSt w R D 112 (wx.setCell ⟨D, fi, none⟩ (.slice none 0 0)) (if (fi : Int) = 0 then .slice none 0 0 else v0) (if (fi : Int) = 0 then v1 else .slice none 0 0) (g.put (fi : Int) [])) := Lib.hid (by
          have := hsx.put (u := .slice none 0 0) (l := []) (w1 := wx) hib ⟨by simp [bvs], .inl ⟨rfl, rfl⟩⟩ (Chg.refl _ _) (fun g e => by simp [Value.ownBlock] at e)
          rwa [Int.toNat_natCast] at this)
        have HKX : Hid (Blk wx wr.heap.size 94 #[.int .i64 (fi : Int), .bool x.start, .slice bA x.bs.length bc] ∧ Blk (wx.setCell ⟨D, fi, none⟩ (.slice none 0 0)) wr.heap.size 94 #[.int .i64 (fi : Int), .bool x.start, .slice bA x.bs.length bc]) := Lib.hid ⟨HXB.out, HXB.out.far HXD.out _⟩
        clear hvf hsx hfi hfi2 hcost hok HXB hib
        generalize wr.heap.size = X at *
        go_cut [42] from 25 to 93 (fun t wc => t = .bool false ∧ Hid (wc = wx))
        case first =>
          rcases hbb with b0 | ⟨b0, b1⟩
          · go_wp2_with fail
            go_meet
            exact ⟨rfl, Lib.hid rfl⟩
          · go_wp2_with fail
            go_meet
            exact ⟨rfl, Lib.hid rfl⟩
        case rest =>
          obtain ⟨rfl, HWC⟩ := hcut
          rw [HWC.out]
          clear HWC hbb
          obtain ⟨gb0, hgb0⟩ : ∃ gb0, gb0 = decide (x.start = true ∧ (0 < lf ∨ k < 0)) := ⟨_, rfl⟩
          have HGB := Lib.hid hgb0
          clear hgb0
          go_upto_region 10 with fail
          go_cut [52] from 25 to 93 (fun t wc => t = .bool gb0 ∧ Hid (wc = wx))
          case first =>
            rcases hways with ⟨hs, hl⟩ | ⟨hs, hl, hkn⟩ | hs | ⟨hs, hl, hkn⟩
            · have HE : Hid (gb0 = true) := Lib.hid (by rw [HGB.out]; simp [hs, hl])
              rw [hs] at z1
              clear hs
              go_wp2_with fail
              go_meet
              exact ⟨by rw [HE.out], Lib.hid rfl⟩
            · have HE : Hid (gb0 = true) := Lib.hid (by rw [HGB.out]; simp [hs, hkn])
              rw [hs] at z1
              clear hs
              have hl0 : decide (0 < lf) = false := by simpa using hl
              go_wp2_with fail
              go_meet
              exact ⟨by rw [HE.out], Lib.hid rfl⟩
            · have HE : Hid (gb0 = false) := Lib.hid (by rw [HGB.out]; simp [hs])
              rw [hs] at z1
              clear hs
              go_wp2_with fail
              go_meet
              exact ⟨by rw [HE.out], Lib.hid rfl⟩
            · have HE : Hid (gb0 = false) := Lib.hid (by rw [HGB.out]; simp [hs, hl, hkn])
              rw [hs] at z1
              clear hs
              have hl0 : decide (0 < lf) = false := by simpa using hl
              have hk0 : decide (k < 0) = false := by simpa using hkn
              go_wp2_with fail
              go_meet
              exact ⟨by rw [HE.out], Lib.hid rfl⟩
          case rest =>
            obtain ⟨rfl, HWC⟩ := hcut
            rw [HWC.out]
            clear HWC
            go_upto_if 52 with fail
            go_cut [8] from 25 to 93 (fun l wc => ∃ lf1, l = .int .i64 lf1 ∧ Hid (∃ v0 v1, ApSt w R D 112 wc v0 v1 (x.first g)) ∧ Hid (Blk wc X 94 #[.int .i64 (fi : Int), .bool x.start, .slice bA x.bs.length bc]) ∧ Hid (0 ≤ k → lf1 = (x.left mm : Int)) ∧ Hid (k < 0 ∨ (x.start = true → 0 < mm)))
            case first =>
              rcases hways with ⟨hs, hl⟩ | ⟨hs, hl, hkn⟩ | hs | ⟨hs, hl, hkn⟩
              · obtain rfl : gb0 = true := by rw [HGB.out]; simp [hs, hl]
                obtain ⟨lf1, hwr⟩ : ∃ l, IntKind.i64.wrap (lf - 1) = l := ⟨_, rfl⟩
                have HF : Hid (x.first g = g.put (fi : Int) []) := Lib.hid (by simp [Wr.first, hs, HFI.out])
                have HL : Hid (0 ≤ k → lf1 = (x.left mm : Int)) := Lib.hid (fun hk => by
                  have h1 := HO.out.left hk
                  have h2 := HO.out.mmk
                  rw [IntWalk.i64_in _ (by omega)] at hwr
                  simp only [Wr.left, hs, if_true]
                  omega)
                have HS : Hid (k < 0 ∨ (x.start = true → 0 < mm)) := Lib.hid (by
                  by_cases hk : k < 0
                  · exact .inl hk
                  · exact .inr fun _ => by have := HO.out.left (by omega); omega)
                clear hs hl
                go_wp2_with fail
                go_meet
                exact ⟨lf1, rfl, Lib.hid (by rw [HF.out]; exact ⟨_, _, HNIL2.out⟩), Lib.hid HKX.out.2, HL, HS⟩
              · obtain rfl : gb0 = true := by rw [HGB.out]; simp [hs, hkn]
                obtain ⟨lf1, hwr⟩ : ∃ l, IntKind.i64.wrap (lf - 1) = l := ⟨_, rfl⟩
                have HF : Hid (x.first g = g.put (fi : Int) []) := Lib.hid (by simp [Wr.first, hs, HFI.out])
                have HL : Hid (0 ≤ k → lf1 = (x.left mm : Int)) := Lib.hid (fun hk => by omega)
                have HS : Hid (k < 0 ∨ (x.start = true → 0 < mm)) := Lib.hid (.inl hkn)
                clear hs hl hkn
                go_wp2_with fail
                go_meet
                exact ⟨lf1, rfl, Lib.hid (by rw [HF.out]; exact ⟨_, _, HNIL2.out⟩), Lib.hid HKX.out.2, HL, HS⟩
              · obtain rfl : gb0 = false := by rw [HGB.out]; simp [hs]
                have HF : Hid (x.first g = g) := Lib.hid (by simp [Wr.first, hs])
                have HL : Hid (0 ≤ k → lf = (x.left mm : Int)) := Lib.hid (fun hk => by simpa [Wr.left, hs] using HO.out.left hk)
                have HS : Hid (k < 0 ∨ (x.start = true → 0 < mm)) := Lib.hid (.inr fun e => absurd e (by simp [hs]))
                rw [hs] at z1
                clear hs
                go_wp2_with fail
                go_meet
                exact ⟨lf, rfl, Lib.hid (by rw [HF.out]; exact ⟨_, _, HSX.out⟩), Lib.hid HKX.out.1, HL, HS⟩
              · obtain rfl : gb0 = false := by rw [HGB.out]; simp [hs, hl, hkn]
                have HG : Hid (g = apD ws k f) := Lib.hid (by
                  have h1 := HO.out.go
                  have h2 := HO.out.left (by omega)
                  rw [HDR.out, show decide (k < 0) = false by simpa using hkn] at h1
                  obtain rfl : mm = 0 := by omega
                  rwa [apG_stop _ _ HOK.out hs] at h1)
                rw [hs] at z1
                obtain ⟨v0', v1', hst⟩ : ∃ v0 v1, ApSt w R D 112 wx v0 v1 g := ⟨_, _, HSX.out⟩
                have HSX2 := Lib.hid hst
                clear hsd0 qd0 hst hs hl hkn
                obtain ⟨v0, v1, hst⟩ := (⟨_, _, HSX2.out⟩ : ∃ v0 v1, ApSt w R D 112 wx v0 v1 g)
                rw [HG.out] at hst
                obtain ⟨B0, e0, B1, e1, rfl, rfl, _, _⟩ := hst.fl.rd
                have HE := Lib.hid (hst.fin rfl rfl)
                have z0 := HE.out.2.cell 0
                have z1 := HE.out.2.cell 1
                have s0 := hst.fl.blk.cell 0
                have s1 := hst.fl.blk.cell 1
                have t0 := hst.res.cell 0
                have t1 := hst.res.cell 1
                have u0 := hst.res.frozen 0
                have u1 := hst.res.frozen 1
                clear hst
                obtain ⟨La, hLa⟩ : ∃ La, La = (apD ws k f).a.length := ⟨_, rfl⟩
                obtain ⟨Lb, hLb⟩ : ∃ Lb, Lb = (apD ws k f).b.length := ⟨_, rfl⟩
                rw [← hLa, ← hLb] at z0 z1 s0 s1 HE
                clear hLa hLb
                go_wp2
                exact bodyPost_ret (v := .agg #[.slice B0 La e0, .slice B1 Lb e1]) (by simp [results, Tryd.results77, z0, z1, go_sem]) rfl HE.out.1
            case rest =>
              obtain ⟨lf1, rfl, hsty, hboxy, hlefty, hstart⟩ := hcut
              clear hways z0 z1 hsd0 qd0
              have HM1 : Hid (x.left mm ≤ k.toNat) := Lib.hid (by
                have h1 := HO.out.mmk
                unfold Wr.left
                split <;> omega)
              obtain ⟨m1, hm1⟩ : ∃ m1, m1 = x.left mm := ⟨_, rfl⟩
              have HLY : Hid (0 ≤ k → lf1 = (m1 : Int)) := Lib.hid (by rw [hm1]; exact hlefty.out)
              rw [← hm1] at HM1
              have HME := Lib.hid hm1
              clear hm1 hlefty
              generalize HG1 : x.first g = g1 at *
              have HGE := Lib.hid HG1
              clear HG1
              go_wp2_with fail
              go_loopw [8, 11] (fun l m wr => ∃ (q : Nat) (lf2 : Int), q ≤ x.bs.length ∧ m = .int .i64 (q : Int) ∧ l = .int .i64 lf2 ∧ Hid (InR w R D 112 X #[.int .i64 (fi : Int), .bool x.start, .slice bA x.bs.length bc] k (fi : Int) x.bs m1 q lf2 g1 wr)) (fun _ m _ => x.bs.length - (intOf m).toNat)
              case atStart => exact ⟨0, lf1, by omega, rfl, rfl, Lib.hid ⟨by simpa [Fls.put_get] using hsty.out, hboxy.out, fun hk => ⟨by simpa using HLY.out hk, by omega⟩⟩⟩
              case round =>
                clear hsty hboxy HLY
                obtain ⟨q, lf2, hq, rfl, rfl, HI⟩ := hrel
                have hbox := HI.out.box
                have z0 : wr.cell? ⟨X, 0, none⟩ = some (.int .i64 (fi : Int)) := hbox.cell 0
                have z2 : wr.cell? ⟨X, 2, none⟩ = some (.slice bA x.bs.length bc) := hbox.cell 2
                clear hbox
                by_cases hql : q < x.bs.length
                · have hqi : (q : Int) < (x.bs.length : Int) := by omega
                  by_cases hret : 0 ≤ k ∧ lf2 ≤ 0
                  · have e0 : decide (lf2 ≤ 0) = true := by simpa using hret.2
                    have e1 : decide (0 ≤ k) = true := by simpa using hret.1
                    have HG : Hid (g1.put (fi : Int) (g1.get (fi : Int) ++ x.bs.take q) = apD ws k f) := Lib.hid (by
                      have h1 := HO.out.go
                      have h2 := HI.out.left hret.1
                      have h3 : q = x.left mm := by have := HME.out; omega
                      rw [HDR.out, show decide (k < 0) = false by simpa using hret.1, apG_end _ _ _ HOK.out (hstart.out.elim (fun e => by omega) id) (by omega), HGE.out, HFI.out, ← h3] at h1
                      exact h1)
                    have HSI := Lib.hid HI.out.st
                    clear hret
                    obtain ⟨v0, v1, hst⟩ := HSI.out
                    rw [HG.out] at hst
                    obtain ⟨B0, e0, B1, e1, rfl, rfl, _, _⟩ := hst.fl.rd
                    have HE := Lib.hid (hst.fin rfl rfl)
                    have z0 := HE.out.2.cell 0
                    have z1 := HE.out.2.cell 1
                    have s0 := hst.fl.blk.cell 0
                    have s1 := hst.fl.blk.cell 1
                    have t0 := hst.res.cell 0
                    have t1 := hst.res.cell 1
                    have u0 := hst.res.frozen 0
                    have u1 := hst.res.frozen 1
                    clear hst
                    obtain ⟨La, hLa⟩ : ∃ La, La = (apD ws k f).a.length := ⟨_, rfl⟩
                    obtain ⟨Lb, hLb⟩ : ∃ Lb, Lb = (apD ws k f).b.length := ⟨_, rfl⟩
                    rw [← hLa, ← hLb] at z0 z1 s0 s1 HE
                    clear hLa hLb
                    go_wp2
                    exact bodyPost_ret (v := .agg #[.slice B0 La e0, .slice B1 Lb e1]) (by simp [results, Tryd.results77, z0, z1, go_sem]) rfl HE.out.1
                  · have hcase : decide (lf2 ≤ 0) = false ∨ (decide (lf2 ≤ 0) = true ∧ decide (0 ≤ k) = false) := by
                      by_cases h1 : lf2 ≤ 0
                      · exact .inr ⟨by simpa using h1, by simp; omega⟩
                      · exact .inl (by simpa using h1)
                    obtain ⟨gc, oc, hbA, hgc, hcell⟩ := (HHR.out wr (HI.out.st.elim fun _ h => h.elim fun _ h => h.below)).at_ (by omega)
                    subst hbA
                    obtain ⟨c, hcq⟩ : ∃ c, x.bs[q]? = some c := ⟨_, List.getElem?_eq_getElem hql⟩
                    obtain ⟨lf3, hlf3⟩ : ∃ l, IntKind.i64.wrap (lf2 - 1) = l := ⟨_, rfl⟩
                    have hl3 : 0 ≤ k → lf3 = (m1 : Int) - ((q + 1 : Nat) : Int) ∧ q + 1 ≤ m1 := fun hk => by
                      have h1 := HI.out.left hk
                      have h2 := HM1.out
                      rw [IntWalk.i64_in _ (by omega)] at hlf3
                      omega
                    obtain ⟨wd, hwd⟩ : ∃ wd, wd = wr.drew := ⟨_, rfl⟩
                    have hbd : Below wr.heap.size wr wd := by rw [hwd]; exact below_drewN (Below.refl _ _) 1
                    obtain ⟨A5, c5, hcl, hown, hfin⟩ := HI.out.step HIB.out HXD.out hcq hbd hl3
                    have hMb : (g1.get (fi : Int) ++ x.bs.take q).length ≤ 13194139533312 := by
                      have h1 := HLEN.out
                      have h2 := g1.get_len (fi : Int)
                      rw [List.length_append, List.length_take]
                      omega
                    generalize hML : g1.get (fi : Int) ++ x.bs.take q = ML at *
                    obtain ⟨M, hM⟩ : ∃ M, M = ML.length := ⟨_, rfl⟩
                    rw [← hM] at hcl hown hfin hMb
                    have hfd : wd.cell? ⟨D, fi, none⟩ = some (.slice A5 M c5) := hcl wd hbd
                    have hfe : ∀ o, (wd.alloc o).cell? ⟨D, fi, none⟩ = some (.slice A5 M c5) := fun o => hcl _ (hbd.trans ((one_box' wd o).mono hbd.size))
                    have HSW : Hid (∀ W, Blk W X 94 #[.int .i64 (fi : Int), .bool x.start, .slice (some ⟨gc, oc, none⟩) x.bs.length bc] → Below w.heap.size w W → W.cell? ⟨X, 0, none⟩ = some (.int .i64 (fi : Int)) ∧ W.cell? ⟨X, 2, none⟩ = some (.slice (some ⟨gc, oc, none⟩) x.bs.length bc) ∧ W.cell? ⟨gc, oc + q, none⟩ = some (.int .u8 (c.toNat : Int))) := Lib.hid fun W h1 h2 => by
                      obtain ⟨gc', oc', e, _, hc'⟩ := (HHR.out W h2).at_ (by omega)
                      simp only [Option.some.injEq, Addr.mk.injEq, and_true] at e
                      obtain ⟨rfl, rfl⟩ := e
                      exact ⟨h1.cell 0, h1.cell 2, hc' q _ (bvs_at hcq)⟩
                    have hbwd : Below w.heap.size w wd := HI.out.st.elim fun _ h => h.elim fun _ h => h.below.trans (hbd.mono h.below.size)
                    have hsD : w.heap.size ≤ wd.heap.size := hbwd.size
                    have hS0 := HSW.out wd (HI.out.box.over hbd) hbwd
                    have hS1 : ∀ o, _ := fun o => HSW.out (wd.alloc o) ((HI.out.box.over hbd).alloc o) (hbwd.trans ((one_box' wd o).mono hsD))
                    have HS0 := Lib.hid hS0
                    have HS1 := Lib.hid hS1
                    have HOWN := Lib.hid hown
                    have HFIN := Lib.hid hfin
                    have HWD := Lib.hid hwd
                    have HFE := Lib.hid hfe
                    have HML := Lib.hid hML
                    clear hS0 hS1 hown hfin hwd hfe hML hl3 hcell hcl hM hbwd hret hbd
                    have hqL : q < x.bs.length := hql
                    go_upto_region 17 with fail
                    go_cut [72] from 60 to 93 (fun t wc => t = .bool false ∧ Hid (wc = wr))
                    case first =>
                      rcases hcase with l0 | ⟨l0, k0⟩
                      · go_wp2_with fail
                        go_meet
                        exact ⟨rfl, Lib.hid rfl⟩
                      · go_wp2_with fail
                        go_meet
                        exact ⟨rfl, Lib.hid rfl⟩
                    case rest =>
                      obtain ⟨rfl, HWC⟩ := hcut
                      rw [HWC.out]
                      clear HWC hcase
                      go_upto_region 19 with fail
                      go_cut [] from 60 to 93 (fun wc => Hid (InR w R D 112 X #[.int .i64 (fi : Int), .bool x.start, .slice (some ⟨gc, oc, none⟩) x.bs.length bc] k (fi : Int) x.bs m1 (q + 1) lf3 g1 wc))
                      case first =>
                        refine wp_region_held_drew (S := fun W => W.cell? ⟨X, 0, none⟩ = some (.int .i64 (fi : Int)) ∧ W.cell? ⟨X, 2, none⟩ = some (.slice (some ⟨gc, oc, none⟩) x.bs.length bc) ∧ W.cell? ⟨gc, oc + q, none⟩ = some (.int .u8 (c.toNat : Int))) (by kernel_rfl) (by rw [← HWD.out]; exact HS0.out) (fun _ => ?_)
                        rw [← HWD.out]
                        refine wpAnyH_take (i := 0) (oi := ?oi0a) (v := ?v0a) ?hi0a (by kernel_rfl) (by kernel_rfl) (by kernel_rfl) ?hq0a ?hy0a (by assumption) ?rest0a
                        case hi0a => (simp only [List.getElem?_toArray, List.getElem?_cons_zero]; rfl)
                        case hy0a => (refine Or.inl ⟨by rfl, ?_⟩; intro w hSw; (try dsimp only at hSw); go_simp; try with_reducible rfl)
                        case hq0a => exact fun _ _ _ h => h
                        try simp only [Act.put, List.setIfInBounds_toArray, List.set_cons_zero, List.set_cons_succ]
                        refine wpAnyH_take (i := 1) (oi := ?oi1a) (v := ?v1a) ?hi1a (by kernel_rfl) (by kernel_rfl) (by kernel_rfl) ?hq1a ?hy1a (by assumption) ?rest1a
                        case hi1a => (simp only [List.getElem?_toArray, List.getElem?_cons_zero, List.getElem?_cons_succ]; rfl)
                        case hy1a => (refine Or.inl ⟨by rfl, ?_⟩; intro w hSw; (try dsimp only at hSw); go_simp; try with_reducible rfl)
                        case hq1a => exact fun _ _ _ h => h
                        try simp only [Act.put, List.setIfInBounds_toArray, List.set_cons_zero, List.set_cons_succ]
                        refine wpAnyH_take (i := 2) (oi := ?oi2a) (v := ?v2a) ?hi2a (by kernel_rfl) (by kernel_rfl) (by kernel_rfl) ?hq2a ?hy2a (by assumption) ?rest2a
                        case hi2a => (simp only [List.getElem?_toArray, List.getElem?_cons_zero, List.getElem?_cons_succ]; rfl)
                        case hy2a => (refine Or.inl ⟨by rfl, ?_⟩; intro w hSw; (try dsimp only at hSw); go_simp; try with_reducible rfl)
                        case hq2a => exact fun _ _ _ h => h
                        try simp only [Act.put, List.setIfInBounds_toArray, List.set_cons_zero, List.set_cons_succ]
                        refine wpAnyH_take (i := 3) (oi := ?oi3a) (v := ?v3a) ?hi3a (by kernel_rfl) (by kernel_rfl) (by kernel_rfl) ?hq3a ?hy3a (by assumption) ?rest3a
                        case hi3a => (simp only [List.getElem?_toArray, List.getElem?_cons_zero, List.getElem?_cons_succ]; rfl)
                        case hy3a => (refine Or.inl ⟨by rfl, ?_⟩; intro w hSw; (try dsimp only at hSw); go_simp; try with_reducible rfl)
                        case hq3a => exact fun _ _ _ h => h
                        try simp only [Act.put, List.setIfInBounds_toArray, List.set_cons_zero, List.set_cons_succ]
                        refine wpAnyH_take (i := 4) (oi := ?oi4a) (v := ?v4a) ?hi4a (by kernel_rfl) (by kernel_rfl) (by kernel_rfl) ?hq4a ?hy4a (by assumption) ?rest4a
                        case hi4a => (simp only [List.getElem?_toArray, List.getElem?_cons_zero, List.getElem?_cons_succ]; rfl)
                        case hy4a => (refine Or.inl ⟨by rfl, ?_⟩; intro w hSw; (try dsimp only at hSw); go_simp; try with_reducible rfl)
                        case hq4a => exact fun _ _ _ h => h
                        try simp only [Act.put, List.setIfInBounds_toArray, List.set_cons_zero, List.set_cons_succ]
                        refine wpAnyH_take (i := 6) (oi := ?oi6a) (v := ?v6a) ?hi6a (by kernel_rfl) (by kernel_rfl) (by kernel_rfl) ?hq6a ?hy6a (by assumption) ?rest6a
                        case hi6a => (simp only [List.getElem?_toArray, List.getElem?_cons_zero, List.getElem?_cons_succ]; rfl)
                        case hy6a => (refine Or.inl ⟨by rfl, ?_⟩; intro w hSw; (try dsimp only at hSw); go_simp; try with_reducible rfl)
                        case hq6a => exact fun _ _ _ h => h
                        try simp only [Act.put, List.setIfInBounds_toArray, List.set_cons_zero, List.set_cons_succ]
                        refine wpAnyH_take (i := 7) (oi := ?oi7a) (v := ?v7a) ?hi7a (by kernel_rfl) (by kernel_rfl) (by kernel_rfl) ?hq7a ?hy7a (by assumption) ?rest7a
                        case hi7a => (simp only [List.getElem?_toArray, List.getElem?_cons_zero, List.getElem?_cons_succ]; rfl)
                        case hy7a => (refine Or.inl ⟨by rfl, ?_⟩; intro w hSw; (try dsimp only at hSw); go_simp; try with_reducible rfl)
                        case hq7a => exact fun _ _ _ h => h
                        try simp only [Act.put, List.setIfInBounds_toArray, List.set_cons_zero, List.set_cons_succ]
                        refine wpAnyH_take (i := 8) (oi := ?oi8a) (v := ?v8a) ?hi8a (by kernel_rfl) (by kernel_rfl) (by kernel_rfl) ?hq8a ?hy8a (by assumption) ?rest8a
                        case hi8a => (simp only [List.getElem?_toArray, List.getElem?_cons_zero, List.getElem?_cons_succ]; rfl)
                        case hy8a => (refine Or.inl ⟨by rfl, ?_⟩; intro w hSw; (try dsimp only at hSw); go_simp; try with_reducible rfl)
                        case hq8a => exact fun _ _ _ h => h
                        try simp only [Act.put, List.setIfInBounds_toArray, List.set_cons_zero, List.set_cons_succ]
                        refine wpAnyH_take (i := 9) (oi := ?oi9a) (v := ?v9a) ?hi9a (by kernel_rfl) (by kernel_rfl) (by kernel_rfl) ?hq9a ?hy9a (by assumption) ?rest9a
                        case hi9a => (simp only [List.getElem?_toArray, List.getElem?_cons_zero, List.getElem?_cons_succ]; rfl)
                        case hy9a => (refine Or.inl ⟨by rfl, ?_⟩; intro w hSw; (try dsimp only at hSw); go_simp; try with_reducible rfl)
                        case hq9a => exact fun _ _ _ h => h
                        try simp only [Act.put, List.setIfInBounds_toArray, List.set_cons_zero, List.set_cons_succ]
                        refine wpAnyH_take (i := 10) (oi := ?oi10a) (v := ?v10a) ?hi10a (by kernel_rfl) (by kernel_rfl) (by kernel_rfl) ?hq10a ?hy10a (by assumption) ?rest10a
                        case hi10a => (simp only [List.getElem?_toArray, List.getElem?_cons_zero, List.getElem?_cons_succ]; rfl)
                        case hy10a => (refine Or.inl ⟨by rfl, ?_⟩; intro w hSw; (try dsimp only at hSw); go_simp; try with_reducible rfl)
                        case hq10a => exact fun _ _ _ h => h
                        try simp only [Act.put, List.setIfInBounds_toArray, List.set_cons_zero, List.set_cons_succ]
                        refine wpAnyH_ready (rs := [5, 11]) (by kernel_rfl) (by simp) ?_
                        refine AllReadyH.cons (o := ?o5b) ?ho5b (fun K hK => ?st5b) ?mo5b
                        case ho5b => (simp only [List.getElem?_toArray, List.getElem?_cons_zero, List.getElem?_cons_succ]; rfl)
                        · skip
                          go_simp
                          refine hK.out _ _ HS0.out (fun _ => ?_)
                          clear hK K
                          try simp only [Act.put, List.setIfInBounds_toArray, List.set_cons_zero, List.set_cons_succ]
                          refine wpAnyH_ready (rs := [11]) (by kernel_rfl) (by simp) ?_
                          refine AllReadyH.cons (o := ?o11b) ?ho11b (fun K hK => ?st11b) ?mo11b
                          case ho11b => (simp only [List.getElem?_toArray, List.getElem?_cons_zero, List.getElem?_cons_succ]; rfl)
                          · skip
                            go_simp
                            refine hK.out _ _ (HS1.out _) (fun _ => ?_)
                            clear hK K
                            try simp only [Act.put, List.setIfInBounds_toArray, List.set_cons_zero, List.set_cons_succ]
                            refine wpAnyH_ready (rs := [12]) (by kernel_rfl) (by simp) ?_
                            refine AllReadyH.cons (o := ?o12b) ?ho12b (fun K hK => ?st12b) ?mo12b
                            case ho12b => (simp only [List.getElem?_toArray, List.getElem?_cons_zero, List.getElem?_cons_succ]; rfl)
                            · skip
                              refine step_appn wd (by rfl) _ _ 22 (by rfl) w.heap.size 5 i0 _ 1 u_bytes hi0 hz0 hz1 hz2 rfl (.slice A5 M c5) M (bvs ML) (by rfl) HOWN.out (.int .u8 (c.toNat : Int)) (by rfl) (by rfl) (by simp only [maxLen]; omega) (by omega) hsD ?_
                              intro u6 w6 ho6 hc6 hu6
                              obtain ⟨q6, d6, hX6, hb6, hI6⟩ := HFIN.out u6 w6 ho6 hc6 hu6
                              obtain ⟨A6', c6', rfl, _, _⟩ := own_shape ho6
                              have HI6 := Lib.hid hI6
                              have HS6 := Lib.hid (HSW.out w6 hX6 hb6)
                              have HS7 := Lib.hid (HSW.out _ hI6.box (hI6.st.elim fun _ h => h.elim fun _ h => h.below))
                              clear ho6 hc6 hu6 hX6 hb6 hI6 HFIN HOWN hfd HFE
                              refine hK.out _ _ HS6.out (fun _ => ?_)
                              clear hK K
                              try simp only [Act.put, List.setIfInBounds_toArray, List.set_cons_zero, List.set_cons_succ]
                              refine wpAnyH_take (i := 13) (oi := ?oi13b) (v := ?v13b) ?hi13b (by kernel_rfl) (by kernel_rfl) (by kernel_rfl) ?hq13b ?hy13b (by assumption) ?rest13b
                              case hi13b => (simp only [List.getElem?_toArray, List.getElem?_cons_zero, List.getElem?_cons_succ]; rfl)
                              case hy13b => (refine Or.inl ⟨by rfl, ?_⟩; intro w hSw; (try dsimp only at hSw); go_simp; try with_reducible rfl)
                              case hq13b => exact fun _ _ _ h => h
                              try simp only [Act.put, List.setIfInBounds_toArray, List.set_cons_zero, List.set_cons_succ]
                              refine wpAnyH_ready (rs := [14]) (by kernel_rfl) (by simp) ?_
                              refine AllReadyH.cons (o := ?o14b) ?ho14b (fun K hK => ?st14b) ?mo14b
                              case ho14b => (simp only [List.getElem?_toArray, List.getElem?_cons_zero, List.getElem?_cons_succ]; rfl)
                              · skip
                                go_simp
                                refine hK.out _ _ HS7.out (fun _ => ?_)
                                clear hK K
                                refine wpAnyH_done (by kernel_rfl) ?_ _
                                go_wp2_with fail
                                go_meet
                                exact HI6
                              · exact AllReadyH.nil
                            · exact AllReadyH.nil
                          · exact AllReadyH.nil
                        refine AllReadyH.cons (o := ?o11c) ?ho11c (fun K hK => ?st11c) ?mo11c
                        case ho11c => (simp only [List.getElem?_toArray, List.getElem?_cons_zero, List.getElem?_cons_succ]; rfl)
                        · skip
                          go_simp
                          refine hK.out _ _ (HS1.out _) (fun _ => ?_)
                          clear hK K
                          try simp only [Act.put, List.setIfInBounds_toArray, List.set_cons_zero, List.set_cons_succ]
                          have hfe2 := HFE.out (.cells #[.int .u8 (c.toNat : Int)] 5)
                          refine wpAnyH_ready (rs := [5]) (by kernel_rfl) (by simp) ?_
                          refine AllReadyH.cons (o := ?o5c) ?ho5c (fun K hK => ?st5c) ?mo5c
                          case ho5c => (simp only [List.getElem?_toArray, List.getElem?_cons_zero, List.getElem?_cons_succ]; rfl)
                          · skip
                            go_simp
                            refine hK.out _ _ (HS1.out _) (fun _ => ?_)
                            clear hfe2
                            clear hK K
                            try simp only [Act.put, List.setIfInBounds_toArray, List.set_cons_zero, List.set_cons_succ]
                            refine wpAnyH_ready (rs := [12]) (by kernel_rfl) (by simp) ?_
                            refine AllReadyH.cons (o := ?o12c) ?ho12c (fun K hK => ?st12c) ?mo12c
                            case ho12c => (simp only [List.getElem?_toArray, List.getElem?_cons_zero, List.getElem?_cons_succ]; rfl)
                            · skip
                              refine step_appn wd (by rfl) _ _ 22 (by rfl) w.heap.size 5 i0 _ 1 u_bytes hi0 hz0 hz1 hz2 rfl (.slice A5 M c5) M (bvs ML) (by rfl) HOWN.out (.int .u8 (c.toNat : Int)) (by rfl) (by rfl) (by simp only [maxLen]; omega) (by omega) hsD ?_
                              intro u6 w6 ho6 hc6 hu6
                              obtain ⟨q6, d6, hX6, hb6, hI6⟩ := HFIN.out u6 w6 ho6 hc6 hu6
                              obtain ⟨A6', c6', rfl, _, _⟩ := own_shape ho6
                              have HI6 := Lib.hid hI6
                              have HS6 := Lib.hid (HSW.out w6 hX6 hb6)
                              have HS7 := Lib.hid (HSW.out _ hI6.box (hI6.st.elim fun _ h => h.elim fun _ h => h.below))
                              clear ho6 hc6 hu6 hX6 hb6 hI6 HFIN HOWN hfd HFE
                              refine hK.out _ _ HS6.out (fun _ => ?_)
                              clear hK K
                              try simp only [Act.put, List.setIfInBounds_toArray, List.set_cons_zero, List.set_cons_succ]
                              refine wpAnyH_take (i := 13) (oi := ?oi13c) (v := ?v13c) ?hi13c (by kernel_rfl) (by kernel_rfl) (by kernel_rfl) ?hq13c ?hy13c (by assumption) ?rest13c
                              case hi13c => (simp only [List.getElem?_toArray, List.getElem?_cons_zero, List.getElem?_cons_succ]; rfl)
                              case hy13c => (refine Or.inl ⟨by rfl, ?_⟩; intro w hSw; (try dsimp only at hSw); go_simp; try with_reducible rfl)
                              case hq13c => exact fun _ _ _ h => h
                              try simp only [Act.put, List.setIfInBounds_toArray, List.set_cons_zero, List.set_cons_succ]
                              refine wpAnyH_ready (rs := [14]) (by kernel_rfl) (by simp) ?_
                              refine AllReadyH.cons (o := ?o14c) ?ho14c (fun K hK => ?st14c) ?mo14c
                              case ho14c => (simp only [List.getElem?_toArray, List.getElem?_cons_zero, List.getElem?_cons_succ]; rfl)
                              · skip
                                go_simp
                                refine hK.out _ _ HS7.out (fun _ => ?_)
                                clear hK K
                                refine wpAnyH_done (by kernel_rfl) ?_ _
                                go_wp2_with fail
                                go_meet
                                exact HI6
                              · exact AllReadyH.nil
                            · exact AllReadyH.nil
                          · exact AllReadyH.nil
                        exact AllReadyH.nil
                      case rest =>
                        have HI6 := hcut
                        have hLb : x.bs.length ≤ 13194139533312 := by have := HLEN.out; omega
                        clear hfd z0 z2
                        go_wp2_with fail
                        go_roundw
                        case rel => exact ⟨q + 1, lf3, by omega, by go_num, rfl, HI6⟩
                        case measure => simp [intOf] <;> omega
                · obtain rfl : q = x.bs.length := by omega
                  have HN : Hid (OutR w R D 112 ws k f (j + 1) (x.left mm - x.bs.length) lf2 ((x.first g).put (fi : Int) ((x.first g).get (fi : Int) ++ x.bs)) wr) := by
                    have h1 := HI.out.st
                    rw [List.take_length, ← HGE.out] at h1
                    refine Lib.hid ⟨h1, ?_, ?_, fun hk => ?_, ?_⟩
                    · have h2 := HO.out.go
                      rw [HDR.out, apG_go _ _ _ HOK.out (fun hk => ⟨hstart.out.elim (fun e => absurd hk (by simpa using e)) id, ?_⟩), HFI.out] at h2
                      · exact h2
                      · have := (HI.out.left (by simpa using hk)).2
                        rw [← HME.out]
                        exact this
                    · rw [Fls.put_len, HGE.out]
                      exact HLEN.out
                    · have := HI.out.left hk
                      rw [← HME.out]
                      omega
                    · have := HM1.out
                      rw [← HME.out]
                      omega
                  clear z0
                  go_wp2_with fail
                  go_roundw
                  case rel => exact ⟨j + 1, _, lf2, _, by omega, by go_num, rfl, HN⟩
                  case measure => simp [intOf] <;> omega
      · have b0 : (x.file != 0) = true := by
          have : ¬ x.file = 0 := fun e => hok (wr_ok.2 (.inl e))
          simpa using this
        have b1 : (x.file != 1) = true := by
          have : ¬ x.file = 1 := fun e => hok (wr_ok.2 (.inr e))
          simpa using this
        have HN : Hid (OutR w R D 112 ws k f (j + 1) mm lf g wx) := Lib.hid ⟨⟨_, _, hsx⟩, by
            have := HO.out.go
            rwa [HDR.out, apG_skip _ _ _ (by simpa using hok)] at this, by
            have h1 := HO.out.len
            rw [HDR.out, costW_cons] at h1
            omega, HO.out.left, HO.out.mmk⟩
        clear hsx hok
        go_wp2
        go_roundw
        case rel => exact ⟨j + 1, mm, lf, g, by omega, by go_num, rfl, HN⟩
        case measure => simp [intOf] <;> omega
    · obtain rfl : j = n := by omega
      have HG : Hid (g = apD ws k f) := Lib.hid (by
        have := HO.out.go
        rw [List.drop_of_length_le (by rw [← HLN.out]; exact Nat.le_refl _), apG_nil] at this
        exact this)
      obtain ⟨v0, v1, hst⟩ := HO.out.st
      rw [HG.out] at hst
      obtain ⟨B0, e0, B1, e1, rfl, rfl, _, _⟩ := hst.fl.rd
      have HE := Lib.hid (hst.fin rfl rfl)
      have z0 := HE.out.2.cell 0
      have z1 := HE.out.2.cell 1
      have s0 := hst.fl.blk.cell 0
      have s1 := hst.fl.blk.cell 1
      have t0 := hst.res.cell 0
      have t1 := hst.res.cell 1
      have u0 := hst.res.frozen 0
      have u1 := hst.res.frozen 1
      clear hst
      obtain ⟨La, hLa⟩ : ∃ La, La = (apD ws k f).a.length := ⟨_, rfl⟩
      obtain ⟨Lb, hLb⟩ : ∃ Lb, Lb = (apD ws k f).b.length := ⟨_, rfl⟩
      rw [← hLa, ← hLb] at z0 z1 s0 s1 HE
      clear hLa hLb
      go_wp2
      exact bodyPost_ret (v := .agg #[.slice B0 La e0, .slice B1 Lb e1]) (by simp [results, Tryd.results77, z0, z1, go_sem]) rfl HE.out.1
end Go.Proofs.YtpkdalpjfcopbaaDoor
