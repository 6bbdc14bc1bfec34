/-
  JournalApplies: the program's Apply, walked.
-/
import Derived.Test.YtpkdalpjfcopbaaDoorAAppR
namespace Go.Proofs.YtpkdalpjfcopbaaDoor
open Go.RowKit
/-- The two copies and their block, as they come. -/
structure P4 (w w0 W : World) (f : Fls) (a b : Option Value) (d : Option Nat) : Prop where
  bw : Below w.heap.size w w0
  b0 : Below w0.heap.size w0 W
  oa : ∀ v, a = some v → W.ownsRow w0.heap.size 5 1 v f.a.length (bvs f.a)
  ob : ∀ v, b = some v → W.ownsRow w0.heap.size 5 1 v f.b.length (bvs f.b)
  od : ∀ D, d = some D → Blk W D 112 #[.slice none 0 0, .slice none 0 0] ∧ w0.heap.size ≤ D
  ab : ∀ va vb, a = some va → b = some vb → ∀ g, va.ownBlock = some g → vb.ownBlock = some g → False
section
variable {w w0 W w' : World} {f : Fls} {a b : Option Value} {d : Option Nat}
theorem nil_below {u : Value} (hg : W.grownBy w' (Value.slice none 0 0).ownBlock) (_hat : u.ownBlock = (Value.slice none 0 0).ownBlock ∨ u.ownBlock = some W.heap.size) : Below W.heap.size W w' :=
  (Chg.of_grown hg).to_below (Nat.le_refl _) fun k e => by simp [Value.ownBlock] at e
theorem nil_new {u : Value} {g : Nat} (hat : u.ownBlock = (Value.slice none 0 0).ownBlock ∨ u.ownBlock = some W.heap.size) (hg : u.ownBlock = some g) : g = W.heap.size := by
  rcases hat with h | h
  · rw [h] at hg; simp [Value.ownBlock] at hg
  · rw [h] at hg; injection hg with hg; exact hg.symm
theorem P4.appA {u : Value} (h : P4 w w0 W f none b d) (ho : w'.ownsRow w0.heap.size 5 1 u f.a.length (bvs f.a)) (hg : W.grownBy w' (Value.slice none 0 0).ownBlock) (hat : u.ownBlock = (Value.slice none 0 0).ownBlock ∨ u.ownBlock = some W.heap.size) : P4 w w0 w' f (some u) b d := by
  have hb := nil_below hg hat
  refine ⟨h.bw, h.b0.trans (hb.mono h.b0.size), fun v e => ?_, fun v e => own_over (h.ob v e) hb, fun D e => ⟨(h.od D e).1.over hb, (h.od D e).2⟩, fun va vb ea eb g ha hb' => ?_⟩
  · injection e with e; subst e; exact ho
  · injection ea with ea; subst ea
    have h1 := nil_new hat ha
    have h2 := (own_block_lt (h.ob vb eb) hb').1
    omega
theorem P4.appB {u : Value} (h : P4 w w0 W f a none d) (ho : w'.ownsRow w0.heap.size 5 1 u f.b.length (bvs f.b)) (hg : W.grownBy w' (Value.slice none 0 0).ownBlock) (hat : u.ownBlock = (Value.slice none 0 0).ownBlock ∨ u.ownBlock = some W.heap.size) : P4 w w0 w' f a (some u) d := by
  have hb := nil_below hg hat
  refine ⟨h.bw, h.b0.trans (hb.mono h.b0.size), fun v e => own_over (h.oa v e) hb, fun v e => ?_, fun D e => ⟨(h.od D e).1.over hb, (h.od D e).2⟩, fun va vb ea eb g ha hb' => ?_⟩
  · injection e with e; subst e; exact ho
  · injection eb with eb; subst eb
    have h1 := nil_new hat hb'
    have h2 := (own_block_lt (h.oa va ea) ha).1
    omega
theorem P4.box (h : P4 w w0 W f a b none) : P4 w w0 (W.alloc (.cells #[.slice none 0 0, .slice none 0 0] 112)) f a b (some W.heap.size) := by
  have hb := one_box' W (.cells #[.slice none 0 0, .slice none 0 0] 112)
  refine ⟨h.bw, h.b0.trans (hb.mono h.b0.size), fun v e => own_over (h.oa v e) hb, fun v e => own_over (h.ob v e) hb, fun D e => ?_, h.ab⟩
  injection e with e
  subst e
  exact ⟨Blk.new W _ _, h.b0.size⟩
theorem P4.fin {va vb : Value} {D R : Nat} (h : P4 w w0 W f (some va) (some vb) (some D)) (hR : Blk w0 R 24 #[.slice none 0 0, .slice none 0 0]) (hRw : w.heap.size ≤ R) :
    ApSt w R D 112 ((W.setCell ⟨D, 0, none⟩ va).setCell ⟨D, 1, none⟩ vb) va vb f := by
  obtain ⟨hD, hDw⟩ := h.od D rfl
  have hc : Chg (fun k => k = D) W ((W.setCell ⟨D, 0, none⟩ va).setCell ⟨D, 1, none⟩ vb) := ((Chg.refl (fun k => k = D) W).setCell (p := ⟨D, 0, none⟩) (.inl rfl) va).setCell (p := ⟨D, 1, none⟩) (.inl rfl) vb
  have nr : ∀ {v : Value} {n : Nat} {xs : List Value}, W.ownsRow w0.heap.size 5 1 v n xs → ∀ g, v.ownBlock = some g → ¬ g = D := fun ho g hg e => by
    obtain ⟨_, _, cur, hB⟩ := own_block_lt ho hg
    subst e
    exact hB.ne_ hD (by decide) rfl
  have hs := h.bw.size
  have hlt := hR.lt
  exact ⟨⟨(hD.set_ 0 _).set_ 1 _, by omega, own_base (own_chg (h.oa va rfl) hc (nr (h.oa va rfl))) hs, own_base (own_chg (h.ob vb rfl) hc (nr (h.ob vb rfl))) hs, by decide, h.ab va vb rfl rfl⟩,
    (hR.over h.b0).chg hc (fun e => by omega), ⟨hRw, by omega⟩, (h.bw.trans (h.b0.mono hs)).trans (hc.to_below (Nat.le_trans hs h.b0.size) fun k e => by omega)⟩
end
/-- The program's Apply ahead of a write; F is what comes of all. -/
structure OutP (w : World) (R D T : Nat) (ws : List Wr) (F : Fls) (j kk : Nat) (g : Fls) (wr : World) : Prop where
  st : ∃ v0 v1, ApSt w R D T wr v0 v1 g
  go : apP (ws.drop j) kk g = F
  len : g.a.length + g.b.length + costW (ws.drop j) ≤ 13194139533312
  kb : kk ≤ 4398046511104
/-- A list is put behind one of the two. -/
theorem ApSt.app {w : World} {R D fi : Nat} {wr : World} {v0 v1 : Value} {f : Fls} (hst : ApSt w R D 112 wr v0 v1 f) (hi : (fi : Int) = 0 ∨ (fi : Int) = 1) {wd : World} (hb : Below wr.heap.size wr wd) (l : List UInt8) :
    ∃ A5 c5, wd.cell? ⟨D, fi, none⟩ = some (.slice A5 (f.get (fi : Int)).length c5) ∧ wd.ownsRow w.heap.size 5 1 (.slice A5 (f.get (fi : Int)).length c5) (f.get (fi : Int)).length (bvs (f.get (fi : Int))) ∧
      ∀ u w6, w6.ownsRow w.heap.size 5 1 u ((f.get (fi : Int)).length + l.length) (bvs (f.get (fi : Int)) ++ bvs l) → Chg (fun k => some k = (Value.slice A5 (f.get (fi : Int)).length c5).ownBlock) wd w6 →
        (∀ g', u.ownBlock = some g' → (Value.slice A5 (f.get (fi : Int)).length c5).ownBlock = some g' ∨ wd.heap.size ≤ g') →
        w6.frozen? ⟨D, fi, none⟩ = false ∧ w6.cell? ⟨D, fi, none⟩ = some (.slice A5 (f.get (fi : Int)).length c5) ∧ (∀ X t cs, Blk wd X t cs → t ≠ 5 → Blk w6 X t cs) ∧ Below w.heap.size w w6 ∧
          (∃ v0 v1, ApSt w R D 112 (w6.setCell ⟨D, fi, none⟩ u) v0 v1 (f.put (fi : Int) (f.get (fi : Int) ++ l))) := by
  have hstd := hst.over hb
  have hown := hstd.fl.own (fi : Int)
  have hcl := hstd.fl.cell hi
  obtain ⟨vf, hvf⟩ : ∃ vf, vf = vget v0 v1 (fi : Int) := ⟨_, rfl⟩
  rw [← hvf] at hown
  rw [Int.toNat_natCast, ← hvf] at hcl
  obtain ⟨A5, c5, hv5, _, _⟩ := own_shape hown
  subst hv5
  refine ⟨A5, c5, hcl, hown, fun u w6 ho hc hu => ?_⟩
  rw [hvf] at hc hu
  have hB4 := hstd.blk4 hi hc
  have hD6 : w6.cell? ⟨D, fi, none⟩ = some (vget v0 v1 (fi : Int)) := by
    rw [hB4.cell]
    have := hstd.fl.cell hi
    rw [hstd.fl.blk.cell, Int.toNat_natCast] at this
    exact this
  have hbw6 : Below w.heap.size w w6 := hstd.below.trans (hc.to_below hstd.below.size fun k e => (hstd.fl.off (fi : Int) e.symm).2.2)
  have hput := hstd.put (l := f.get (fi : Int) ++ l) hi (by rw [List.length_append, bvs_append]; exact ho) hc hu
  rw [Int.toNat_natCast] at hput
  exact ⟨hB4.frozen fi, by rw [hvf]; exact hD6, fun X t cs hX ht => hstd.box hX ht (fi : Int) hc, hbw6, _, _, hput⟩
/-- One of the two is emptied; its memory stays its own. -/
theorem ApSt.cut {w : World} {R D fi : Nat} {wr : World} {v0 v1 : Value} {f : Fls} (hst : ApSt w R D 112 wr v0 v1 f) (hi : (fi : Int) = 0 ∨ (fi : Int) = 1) {A5 : Option Addr} {c5 M : Nat} (hv : vget v0 v1 (fi : Int) = .slice A5 M c5) (hM : M = (f.get (fi : Int)).length) :
    ∃ v0 v1, ApSt w R D 112 (wr.setCell ⟨D, fi, none⟩ (.slice A5 0 c5)) v0 v1 (f.put (fi : Int) []) := by
  have hown := hst.fl.own (fi : Int)
  rw [hv, ← hM] at hown
  have ho : wr.ownsRow w.heap.size 5 1 (.slice A5 0 c5) 0 [] := by
    rcases hown.2 with ⟨h1, h2⟩ | ⟨g, cap, cur, h1, h2, h3, h4, h5, h6, h7⟩
    · simp only [Value.slice.injEq] at h1
      obtain ⟨rfl, _, rfl⟩ := h1
      exact ⟨by simp, .inl ⟨rfl, rfl⟩⟩
    · simp only [Value.slice.injEq, true_and] at h1
      obtain ⟨rfl, rfl⟩ := h1
      exact ⟨by simp, .inr ⟨g, c5, cur, rfl, h2, h3, by omega, h5, h6, by simp⟩⟩
  have hput := hst.put (u := .slice A5 0 c5) (l := []) (w1 := wr) hi ho (Chg.refl _ _) fun g hg => .inl (by rw [hv]; cases A5 <;> exact hg)
  rw [Int.toNat_natCast] at hput
  exact ⟨_, _, hput⟩
set_option maxRecDepth 100000 in
set_option maxHeartbeats 3200000 in
theorem PApply_any {w : World} (A : Option Addr) (n cap : Nat) (ws : List Wr) (DA DB : Option Addr) (ca cb : Nat) (f : Fls) (k : Int) (h : WsAt w A n ws) (hc : costW ws ≤ 4398046511104) (hn : n ≤ 1099511627776)
    (ha : RdB w w.heap.size DA f.a.length f.a) (hb : RdB w w.heap.size DB f.b.length f.b) (hla : f.a.length ≤ 4398046511104) (hlb : f.b.length ≤ 4398046511104) :
    Calls Tryd.prog 37 #[.agg #[.slice DA f.a.length ca, .slice DB f.b.length cb], .slice A n cap, .int .i64 k] w (GivesF w (apP ws (stepsP ws k) f)) := by
  obtain ⟨i0, hi0, hz0, hz1, hz2⟩ := info_parts info_u8
  have H := Lib.hid h
  have HLN : Hid (n = ws.length) := Lib.hid h.len
  obtain ⟨w1, hw1⟩ : ∃ w1, w1 = w.alloc (.cells #[.slice DA f.a.length ca, .slice DB f.b.length cb] 24) := ⟨_, rfl⟩
  obtain ⟨w2, hw2⟩ : ∃ w2, w2 = w1.alloc (.cells #[.slice none 0 0, .slice none 0 0] 24) := ⟨_, rfl⟩
  have hs1 : w1.heap.size = w.heap.size + 1 := by rw [hw1]; simp
  have hb1 : Below w.heap.size w w1 := by rw [hw1]; exact one_box' w _
  have hb2 : Below w1.heap.size w1 w2 := by rw [hw2]; exact one_box' w1 _
  have hX : Blk w2 w.heap.size 24 #[.slice DA f.a.length ca, .slice DB f.b.length cb] := by
    have := Blk.new w 24 #[.slice DA f.a.length ca, .slice DB f.b.length cb]
    rw [← hw1] at this
    exact this.over hb2
  have hR : Blk w2 (w.heap.size + 1) 24 #[.slice none 0 0, .slice none 0 0] := by
    have := Blk.new w1 24 #[.slice none 0 0, .slice none 0 0]
    rw [← hw2, hs1] at this
    exact this
  have hb02 : Below w.heap.size w w2 := hb1.trans (hb2.mono hb1.size)
  have hnil : ∀ (w' : World) (B : Nat), w'.ownsRow B 5 1 (.slice none 0 0) 0 [] := fun _ _ => ⟨by simp, .inl ⟨rfl, rfl⟩⟩
  have HNIL := Lib.hid hnil
  have HX2 := Lib.hid hX
  have HR2 := Lib.hid hR
  have HB2 := Lib.hid hb02
  have HRA : Hid (∀ W, Below w.heap.size w W → RdB W w.heap.size DA f.a.length f.a) := Lib.hid fun W hW => ha.below hW
  have HRB : Hid (∀ W, Below w.heap.size w W → RdB W w.heap.size DB f.b.length f.b) := Lib.hid fun W hW => hb.below hW
  have HC := Lib.hid (PCost_any (cap := cap) A n ws (h.below hb02) (by omega) hn)
  have HW1 := Lib.hid hw1
  have HW2 := Lib.hid hw2
  clear h hw1 hw2 hs1 hb1 hb2 hX hR hb02 hnil ha hb
  go_enter Tryd.func37, Tryd.ntmps37
  go_upto_region 1 with fail
  rw [← HW1.out]
  rw [← HW2.out]
  obtain ⟨CW, hCW⟩ : ∃ CW, CW = costW ws := ⟨_, rfl⟩
  rw [← hCW] at HC hc
  have HCW := Lib.hid hCW
  clear hCW
  go_upto_region 2 with (go_at_call 36; refine HC.out.mono ?_; rintro _ w3 ⟨rfl, hb3⟩; have HB3 := Lib.hid hb3; clear hb3)
  obtain ⟨KK, hKK⟩ : ∃ KK, KK = stepsP ws k := ⟨_, rfl⟩
  have HKK := Lib.hid hKK
  have hbK : KK ≤ 4398046511104 := by
    rw [hKK]
    unfold stepsP
    rw [← HCW.out]
    split <;> omega
  have hways : (k < 0 ∧ KK = CW) ∨ (¬ k < 0 ∧ (CW : Int) < k ∧ KK = CW) ∨ (¬ k < 0 ∧ ¬ (CW : Int) < k ∧ (KK : Int) = k) := by
    rw [hKK]
    unfold stepsP
    rw [← HCW.out]
    split <;> omega
  have HKW := Lib.hid hways
  obtain ⟨bb, hbb⟩ : ∃ bb, bb = decide (k < 0 ∨ (CW : Int) < k) := ⟨_, rfl⟩
  have HBB := Lib.hid hbb
  clear hKK hbb hways
  go_cut [20] from 12 to 86 (fun t wc => t = .bool bb ∧ Hid (wc = w3))
  case first =>
    rcases HKW.out with ⟨h1, h2⟩ | ⟨h1, h2, h3⟩ | ⟨h1, h2, h3⟩
    · have HE : Hid (bb = true) := Lib.hid (by rw [HBB.out]; simp [h1])
      clear h2
      go_wp2_with fail
      go_meet
      exact ⟨by rw [HE.out], Lib.hid rfl⟩
    · have HE : Hid (bb = true) := Lib.hid (by rw [HBB.out]; simp [h2])
      clear h3
      have h0 : decide (k < 0) = false := by simpa using h1
      go_wp2_with fail
      go_meet
      exact ⟨by rw [HE.out], Lib.hid rfl⟩
    · have HE : Hid (bb = false) := Lib.hid (by rw [HBB.out]; simp [h1, h2])
      clear h3
      have h0 : decide (k < 0) = false := by simpa using h1
      have h4 : decide ((CW : Int) < k) = false := by simpa using h2
      go_wp2_with fail
      go_meet
      exact ⟨by rw [HE.out], Lib.hid rfl⟩
  case rest =>
    obtain ⟨rfl, HWC⟩ := hcut
    rw [HWC.out]
    clear HWC
    go_upto_if 20 with fail
    go_cut [2] from 12 to 86 (fun kv wc => kv = .int .i64 (KK : Int) ∧ Hid (wc = w3))
    case first =>
      cases bb with
      | true =>
        have HE : Hid (KK = CW) := Lib.hid (by
          have h1 := HBB.out
          rcases HKW.out with ⟨h1, h2⟩ | ⟨h1, h2, h3⟩ | ⟨h3, h4, h5⟩
          · exact h2
          · exact h3
          · simp [h3, h4] at h1)
        go_wp2_with fail
        go_meet
        exact ⟨by rw [HE.out], Lib.hid rfl⟩
      | false =>
        have HE : Hid ((KK : Int) = k) := Lib.hid (by
          have h1 := HBB.out
          rcases HKW.out with ⟨h3, h2⟩ | ⟨h3, h2, h4⟩ | ⟨h3, h4, h5⟩
          · simp [h3] at h1
          · simp [h2] at h1
          · exact h5)
        go_wp2_with fail
        go_meet
        exact ⟨by rw [HE.out], Lib.hid rfl⟩
    case rest =>
      obtain ⟨rfl, HWC⟩ := hcut
      rw [HWC.out]
      clear HWC HKW HBB
      go_upto_region 4 with fail
      generalize hRR : w.heap.size + 1 = R at *
      have HRR := Lib.hid hRR
      clear hRR
      go_cut [8] from 12 to 86 (fun d wc => ∃ D, d = .pointer (some ⟨D, 0, none⟩) ∧ Hid (∃ v0 v1, ApSt w R D 112 wc v0 v1 f))
      case first =>
        obtain ⟨wd, hwd⟩ : ∃ wd, wd = w3.drew := ⟨_, rfl⟩
        have hbd : Below w2.heap.size w2 wd := by rw [hwd]; exact below_drewN HB3.out 1
        have HWD := Lib.hid hwd
        have HSB : Hid (∀ W, Below wd.heap.size wd W → W.cell? ⟨w.heap.size, 0, none⟩ = some (.slice DA f.a.length ca) ∧ W.cell? ⟨w.heap.size, 1, none⟩ = some (.slice DB f.b.length cb)) := Lib.hid fun W hW => ⟨((HX2.out.over hbd).over hW).cell 0, ((HX2.out.over hbd).over hW).cell 1⟩
        have HP := Lib.hid (⟨HB2.out.trans (hbd.mono HB2.out.size), Below.refl _ _, fun v e => by (cases e), fun v e => by (cases e), fun v e => by (cases e), fun v u e => by (cases e)⟩ : P4 w wd wd f none none none)
        have HRD := Lib.hid (HR2.out.over hbd)
        have hsD : w.heap.size ≤ wd.heap.size := Nat.le_trans HB2.out.size hbd.size
        have HRw : Hid (w.heap.size ≤ R) := Lib.hid (by have := HRR.out; omega)
        clear hwd hbd
        refine wp_region_held_drew (S := fun W => W.cell? ⟨w.heap.size, 0, none⟩ = some (.slice DA f.a.length ca) ∧ W.cell? ⟨w.heap.size, 1, none⟩ = some (.slice DB f.b.length cb)) (by kernel_rfl) (by rw [← HWD.out]; exact HSB.out _ (Below.refl _ _)) (fun hsw => ?_)
        rw [← HWD.out] at hsw ⊢
        refine wpAnyH_take (i := 0) (oi := ?oi0a) (v := ?v0a) ?hi0a (by kernel_rfl) (by kernel_rfl) (by kernel_rfl) ?hq0a ?hy0a (by assumption) ?rest0a
        case hi0a => (simp only [List.getElem?_toArray, List.getElem?_cons_zero]; rfl)
        case hy0a => (refine Or.inl ⟨by rfl, ?_⟩; intro w hSw; (try dsimp only at hSw); go_simp; try with_reducible rfl)
        case hq0a => exact fun _ _ _ h => h
        try simp only [Act.put, List.setIfInBounds_toArray, List.set_cons_zero, List.set_cons_succ]
        refine wpAnyH_take (i := 1) (oi := ?oi1a) (v := ?v1a) ?hi1a (by kernel_rfl) (by kernel_rfl) (by kernel_rfl) ?hq1a ?hy1a (by assumption) ?rest1a
        case hi1a => (simp only [List.getElem?_toArray, List.getElem?_cons_zero, List.getElem?_cons_succ]; rfl)
        case hy1a => (refine Or.inl ⟨by rfl, ?_⟩; intro w hSw; (try dsimp only at hSw); go_simp; try with_reducible rfl)
        case hq1a => exact fun _ _ _ h => h
        try simp only [Act.put, List.setIfInBounds_toArray, List.set_cons_zero, List.set_cons_succ]
        refine wpAnyH_take (i := 3) (oi := ?oi3a) (v := ?v3a) ?hi3a (by kernel_rfl) (by kernel_rfl) (by kernel_rfl) ?hq3a ?hy3a (by assumption) ?rest3a
        case hi3a => (simp only [List.getElem?_toArray, List.getElem?_cons_zero, List.getElem?_cons_succ]; rfl)
        case hy3a => (refine Or.inl ⟨by rfl, ?_⟩; intro w hSw; (try dsimp only at hSw); go_simp; try with_reducible rfl)
        case hq3a => exact fun _ _ _ h => h
        try simp only [Act.put, List.setIfInBounds_toArray, List.set_cons_zero, List.set_cons_succ]
        refine wpAnyH_take (i := 4) (oi := ?oi4a) (v := ?v4a) ?hi4a (by kernel_rfl) (by kernel_rfl) (by kernel_rfl) ?hq4a ?hy4a (by assumption) ?rest4a
        case hi4a => (simp only [List.getElem?_toArray, List.getElem?_cons_zero, List.getElem?_cons_succ]; rfl)
        case hy4a => (refine Or.inl ⟨by rfl, ?_⟩; intro w hSw; (try dsimp only at hSw); go_simp; try with_reducible rfl)
        case hq4a => exact fun _ _ _ h => h
        try simp only [Act.put, List.setIfInBounds_toArray, List.set_cons_zero, List.set_cons_succ]
        refine wpAnyH_ready (rs := [2, 7]) (by kernel_rfl) (by simp) ?_
        refine AllReadyH.cons (o := ?o2p1) ?ho2p1 (fun K hK => ?st2p1) ?mo2p1
        case ho2p1 => (simp only [List.getElem?_toArray, List.getElem?_cons_zero, List.getElem?_cons_succ]; rfl)
        · skip
          have hbW := HP.out.bw.trans (HP.out.b0.mono hsD)
          refine step_append_any wd (by rfl) _ _ 22 (by rfl) wd.heap.size 5 i0 _ 1 1 u_bytes hi0 hz0 hz1 hz2 rfl (by decide) _ 0 [] (by rfl) (HNIL.out _ _) w.heap.size DA f.a.length ca (bvs f.a) (by rfl) (HRA.out _ hbW) (bvs_one _) (by simp only [maxLen]; omega) (by omega) HP.out.b0.size ?_
          intro up1 wp1 ho hg hat
          rw [Nat.zero_add, List.nil_append] at ho
          have Hp1 := Lib.hid (HP.out.appA ho hg hat)
          obtain ⟨Ap1, cp1, rfl, _, _⟩ := own_shape ho
          clear ho hg hat hbW
          refine hK.out _ _ (HSB.out _ Hp1.out.b0) (fun _ => ?_)
          clear hK K
          try simp only [Act.put, List.setIfInBounds_toArray, List.set_cons_zero, List.set_cons_succ]
          refine wpAnyH_ready (rs := [5, 7]) (by kernel_rfl) (by simp) ?_
          refine AllReadyH.cons (o := ?o5p2) ?ho5p2 (fun K hK => ?st5p2) ?mo5p2
          case ho5p2 => (simp only [List.getElem?_toArray, List.getElem?_cons_zero, List.getElem?_cons_succ]; rfl)
          · skip
            have hbW := Hp1.out.bw.trans (Hp1.out.b0.mono hsD)
            refine step_append_any wp1 (by rfl) _ _ 22 (by rfl) wd.heap.size 5 i0 _ 1 1 u_bytes hi0 hz0 hz1 hz2 rfl (by decide) _ 0 [] (by rfl) (HNIL.out _ _) w.heap.size DB f.b.length cb (bvs f.b) (by rfl) (HRB.out _ hbW) (bvs_one _) (by simp only [maxLen]; omega) (by omega) Hp1.out.b0.size ?_
            intro up2 wp2 ho hg hat
            rw [Nat.zero_add, List.nil_append] at ho
            have Hp2 := Lib.hid (Hp1.out.appB ho hg hat)
            obtain ⟨Ap2, cp2, rfl, _, _⟩ := own_shape ho
            clear ho hg hat hbW
            refine hK.out _ _ (HSB.out _ Hp2.out.b0) (fun _ => ?_)
            clear hK K
            try simp only [Act.put, List.setIfInBounds_toArray, List.set_cons_zero, List.set_cons_succ]
            refine wpAnyH_take (i := 6) (oi := ?oi6p3) (v := ?v6p3) ?hi6p3 (by kernel_rfl) (by kernel_rfl) (by kernel_rfl) ?hq6p3 ?hy6p3 (by assumption) ?rest6p3
            case hi6p3 => (simp only [List.getElem?_toArray, List.getElem?_cons_zero, List.getElem?_cons_succ]; rfl)
            case hy6p3 => (refine Or.inl ⟨by rfl, ?_⟩; intro w hSw; (try dsimp only at hSw); go_simp; try with_reducible rfl)
            case hq6p3 => exact fun _ _ _ h => h
            try simp only [Act.put, List.setIfInBounds_toArray, List.set_cons_zero, List.set_cons_succ]
            refine wpAnyH_ready (rs := [7]) (by kernel_rfl) (by simp) ?_
            refine AllReadyH.cons (o := ?o7p4) ?ho7p4 (fun K hK => ?st7p4) ?mo7p4
            case ho7p4 => (simp only [List.getElem?_toArray, List.getElem?_cons_zero, List.getElem?_cons_succ]; rfl)
            · skip
              have Hp4 := Lib.hid Hp2.out.box
              obtain ⟨wp4, hwp4⟩ : ∃ w', w' = wp2.alloc (.cells #[.slice none 0 0, .slice none 0 0] 112) := ⟨_, rfl⟩
              rw [← hwp4] at Hp4
              go_simp
              rw [← hwp4]
              clear hwp4
              refine hK.out _ _ (HSB.out _ Hp4.out.b0) (fun _ => ?_)
              clear hK K
              try simp only [Act.put, List.setIfInBounds_toArray, List.set_cons_zero, List.set_cons_succ]
              refine wpAnyH_ready (rs := [8]) (by kernel_rfl) (by simp) ?_
              refine AllReadyH.cons (o := ?o8p5) ?ho8p5 (fun K hK => ?st8p5) ?mo8p5
              case ho8p5 => (simp only [List.getElem?_toArray, List.getElem?_cons_zero, List.getElem?_cons_succ]; rfl)
              · skip
                obtain ⟨hBD, _⟩ := Hp4.out.od _ rfl
                have c0 := hBD.cell 0
                have c1 := hBD.cell 1
                have q0 := hBD.frozen 0
                have q1 := hBD.frozen 1
                have HFI := Lib.hid (Hp4.out.fin HRD.out HRw.out)
                have hS : ((wp4.setCell ⟨wp2.heap.size, 0, none⟩ (.slice Ap1 f.a.length cp1)).setCell ⟨wp2.heap.size, 1, none⟩ (.slice Ap2 f.b.length cp2)).cell? ⟨w.heap.size, 0, none⟩ = some (.slice DA f.a.length ca) ∧ ((wp4.setCell ⟨wp2.heap.size, 0, none⟩ (.slice Ap1 f.a.length cp1)).setCell ⟨wp2.heap.size, 1, none⟩ (.slice Ap2 f.b.length cp2)).cell? ⟨w.heap.size, 1, none⟩ = some (.slice DB f.b.length cb) := by
                  have hx := HSB.out _ ((Hp4.out.b0.setCell (p := ⟨wp2.heap.size, 0, none⟩) (Hp4.out.od _ rfl).2 (.slice Ap1 f.a.length cp1)).setCell (p := ⟨wp2.heap.size, 1, none⟩) (Hp4.out.od _ rfl).2 (.slice Ap2 f.b.length cp2))
                  exact hx
                clear hBD
                go_simp
                refine hK.out _ _ hS (fun _ => ?_)
                clear hK K
                refine wpAnyH_done (by kernel_rfl) ?_ _
                go_wp2_with fail
                go_meet
                exact ⟨_, rfl, Lib.hid ⟨_, _, HFI.out⟩⟩
              exact AllReadyH.nil
            exact AllReadyH.nil
          refine AllReadyH.cons (o := ?o7p6) ?ho7p6 (fun K hK => ?st7p6) ?mo7p6
          case ho7p6 => (simp only [List.getElem?_toArray, List.getElem?_cons_zero, List.getElem?_cons_succ]; rfl)
          · skip
            have Hp6 := Lib.hid Hp1.out.box
            obtain ⟨wp6, hwp6⟩ : ∃ w', w' = wp1.alloc (.cells #[.slice none 0 0, .slice none 0 0] 112) := ⟨_, rfl⟩
            rw [← hwp6] at Hp6
            go_simp
            rw [← hwp6]
            clear hwp6
            refine hK.out _ _ (HSB.out _ Hp6.out.b0) (fun _ => ?_)
            clear hK K
            try simp only [Act.put, List.setIfInBounds_toArray, List.set_cons_zero, List.set_cons_succ]
            refine wpAnyH_ready (rs := [5]) (by kernel_rfl) (by simp) ?_
            refine AllReadyH.cons (o := ?o5p7) ?ho5p7 (fun K hK => ?st5p7) ?mo5p7
            case ho5p7 => (simp only [List.getElem?_toArray, List.getElem?_cons_zero, List.getElem?_cons_succ]; rfl)
            · skip
              have hbW := Hp6.out.bw.trans (Hp6.out.b0.mono hsD)
              refine step_append_any wp6 (by rfl) _ _ 22 (by rfl) wd.heap.size 5 i0 _ 1 1 u_bytes hi0 hz0 hz1 hz2 rfl (by decide) _ 0 [] (by rfl) (HNIL.out _ _) w.heap.size DB f.b.length cb (bvs f.b) (by rfl) (HRB.out _ hbW) (bvs_one _) (by simp only [maxLen]; omega) (by omega) Hp6.out.b0.size ?_
              intro up7 wp7 ho hg hat
              rw [Nat.zero_add, List.nil_append] at ho
              have Hp7 := Lib.hid (Hp6.out.appB ho hg hat)
              obtain ⟨Ap7, cp7, rfl, _, _⟩ := own_shape ho
              clear ho hg hat hbW
              refine hK.out _ _ (HSB.out _ Hp7.out.b0) (fun _ => ?_)
              clear hK K
              try simp only [Act.put, List.setIfInBounds_toArray, List.set_cons_zero, List.set_cons_succ]
              refine wpAnyH_take (i := 6) (oi := ?oi6p8) (v := ?v6p8) ?hi6p8 (by kernel_rfl) (by kernel_rfl) (by kernel_rfl) ?hq6p8 ?hy6p8 (by assumption) ?rest6p8
              case hi6p8 => (simp only [List.getElem?_toArray, List.getElem?_cons_zero, List.getElem?_cons_succ]; rfl)
              case hy6p8 => (refine Or.inl ⟨by rfl, ?_⟩; intro w hSw; (try dsimp only at hSw); go_simp; try with_reducible rfl)
              case hq6p8 => exact fun _ _ _ h => h
              try simp only [Act.put, List.setIfInBounds_toArray, List.set_cons_zero, List.set_cons_succ]
              refine wpAnyH_ready (rs := [8]) (by kernel_rfl) (by simp) ?_
              refine AllReadyH.cons (o := ?o8p9) ?ho8p9 (fun K hK => ?st8p9) ?mo8p9
              case ho8p9 => (simp only [List.getElem?_toArray, List.getElem?_cons_zero, List.getElem?_cons_succ]; rfl)
              · skip
                obtain ⟨hBD, _⟩ := Hp7.out.od _ rfl
                have c0 := hBD.cell 0
                have c1 := hBD.cell 1
                have q0 := hBD.frozen 0
                have q1 := hBD.frozen 1
                have HFI := Lib.hid (Hp7.out.fin HRD.out HRw.out)
                have hS : ((wp7.setCell ⟨wp1.heap.size, 0, none⟩ (.slice Ap1 f.a.length cp1)).setCell ⟨wp1.heap.size, 1, none⟩ (.slice Ap7 f.b.length cp7)).cell? ⟨w.heap.size, 0, none⟩ = some (.slice DA f.a.length ca) ∧ ((wp7.setCell ⟨wp1.heap.size, 0, none⟩ (.slice Ap1 f.a.length cp1)).setCell ⟨wp1.heap.size, 1, none⟩ (.slice Ap7 f.b.length cp7)).cell? ⟨w.heap.size, 1, none⟩ = some (.slice DB f.b.length cb) := by
                  have hx := HSB.out _ ((Hp7.out.b0.setCell (p := ⟨wp1.heap.size, 0, none⟩) (Hp7.out.od _ rfl).2 (.slice Ap1 f.a.length cp1)).setCell (p := ⟨wp1.heap.size, 1, none⟩) (Hp7.out.od _ rfl).2 (.slice Ap7 f.b.length cp7))
                  exact hx
                clear hBD
                go_simp
                refine hK.out _ _ hS (fun _ => ?_)
                clear hK K
                refine wpAnyH_done (by kernel_rfl) ?_ _
                go_wp2_with fail
                go_meet
                exact ⟨_, rfl, Lib.hid ⟨_, _, HFI.out⟩⟩
              exact AllReadyH.nil
            exact AllReadyH.nil
          exact AllReadyH.nil
        refine AllReadyH.cons (o := ?o7p10) ?ho7p10 (fun K hK => ?st7p10) ?mo7p10
        case ho7p10 => (simp only [List.getElem?_toArray, List.getElem?_cons_zero, List.getElem?_cons_succ]; rfl)
        · skip
          have Hp10 := Lib.hid HP.out.box
          obtain ⟨wp10, hwp10⟩ : ∃ w', w' = wd.alloc (.cells #[.slice none 0 0, .slice none 0 0] 112) := ⟨_, rfl⟩
          rw [← hwp10] at Hp10
          go_simp
          rw [← hwp10]
          clear hwp10
          refine hK.out _ _ (HSB.out _ Hp10.out.b0) (fun _ => ?_)
          clear hK K
          try simp only [Act.put, List.setIfInBounds_toArray, List.set_cons_zero, List.set_cons_succ]
          refine wpAnyH_ready (rs := [2]) (by kernel_rfl) (by simp) ?_
          refine AllReadyH.cons (o := ?o2p11) ?ho2p11 (fun K hK => ?st2p11) ?mo2p11
          case ho2p11 => (simp only [List.getElem?_toArray, List.getElem?_cons_zero, List.getElem?_cons_succ]; rfl)
          · skip
            have hbW := Hp10.out.bw.trans (Hp10.out.b0.mono hsD)
            refine step_append_any wp10 (by rfl) _ _ 22 (by rfl) wd.heap.size 5 i0 _ 1 1 u_bytes hi0 hz0 hz1 hz2 rfl (by decide) _ 0 [] (by rfl) (HNIL.out _ _) w.heap.size DA f.a.length ca (bvs f.a) (by rfl) (HRA.out _ hbW) (bvs_one _) (by simp only [maxLen]; omega) (by omega) Hp10.out.b0.size ?_
            intro up11 wp11 ho hg hat
            rw [Nat.zero_add, List.nil_append] at ho
            have Hp11 := Lib.hid (Hp10.out.appA ho hg hat)
            obtain ⟨Ap11, cp11, rfl, _, _⟩ := own_shape ho
            clear ho hg hat hbW
            refine hK.out _ _ (HSB.out _ Hp11.out.b0) (fun _ => ?_)
            clear hK K
            try simp only [Act.put, List.setIfInBounds_toArray, List.set_cons_zero, List.set_cons_succ]
            refine wpAnyH_ready (rs := [5]) (by kernel_rfl) (by simp) ?_
            refine AllReadyH.cons (o := ?o5p12) ?ho5p12 (fun K hK => ?st5p12) ?mo5p12
            case ho5p12 => (simp only [List.getElem?_toArray, List.getElem?_cons_zero, List.getElem?_cons_succ]; rfl)
            · skip
              have hbW := Hp11.out.bw.trans (Hp11.out.b0.mono hsD)
              refine step_append_any wp11 (by rfl) _ _ 22 (by rfl) wd.heap.size 5 i0 _ 1 1 u_bytes hi0 hz0 hz1 hz2 rfl (by decide) _ 0 [] (by rfl) (HNIL.out _ _) w.heap.size DB f.b.length cb (bvs f.b) (by rfl) (HRB.out _ hbW) (bvs_one _) (by simp only [maxLen]; omega) (by omega) Hp11.out.b0.size ?_
              intro up12 wp12 ho hg hat
              rw [Nat.zero_add, List.nil_append] at ho
              have Hp12 := Lib.hid (Hp11.out.appB ho hg hat)
              obtain ⟨Ap12, cp12, rfl, _, _⟩ := own_shape ho
              clear ho hg hat hbW
              refine hK.out _ _ (HSB.out _ Hp12.out.b0) (fun _ => ?_)
              clear hK K
              try simp only [Act.put, List.setIfInBounds_toArray, List.set_cons_zero, List.set_cons_succ]
              refine wpAnyH_take (i := 6) (oi := ?oi6p13) (v := ?v6p13) ?hi6p13 (by kernel_rfl) (by kernel_rfl) (by kernel_rfl) ?hq6p13 ?hy6p13 (by assumption) ?rest6p13
              case hi6p13 => (simp only [List.getElem?_toArray, List.getElem?_cons_zero, List.getElem?_cons_succ]; rfl)
              case hy6p13 => (refine Or.inl ⟨by rfl, ?_⟩; intro w hSw; (try dsimp only at hSw); go_simp; try with_reducible rfl)
              case hq6p13 => exact fun _ _ _ h => h
              try simp only [Act.put, List.setIfInBounds_toArray, List.set_cons_zero, List.set_cons_succ]
              refine wpAnyH_ready (rs := [8]) (by kernel_rfl) (by simp) ?_
              refine AllReadyH.cons (o := ?o8p14) ?ho8p14 (fun K hK => ?st8p14) ?mo8p14
              case ho8p14 => (simp only [List.getElem?_toArray, List.getElem?_cons_zero, List.getElem?_cons_succ]; rfl)
              · skip
                obtain ⟨hBD, _⟩ := Hp12.out.od _ rfl
                have c0 := hBD.cell 0
                have c1 := hBD.cell 1
                have q0 := hBD.frozen 0
                have q1 := hBD.frozen 1
                have HFI := Lib.hid (Hp12.out.fin HRD.out HRw.out)
                have hS : ((wp12.setCell ⟨wd.heap.size, 0, none⟩ (.slice Ap11 f.a.length cp11)).setCell ⟨wd.heap.size, 1, none⟩ (.slice Ap12 f.b.length cp12)).cell? ⟨w.heap.size, 0, none⟩ = some (.slice DA f.a.length ca) ∧ ((wp12.setCell ⟨wd.heap.size, 0, none⟩ (.slice Ap11 f.a.length cp11)).setCell ⟨wd.heap.size, 1, none⟩ (.slice Ap12 f.b.length cp12)).cell? ⟨w.heap.size, 1, none⟩ = some (.slice DB f.b.length cb) := by
                  have hx := HSB.out _ ((Hp12.out.b0.setCell (p := ⟨wd.heap.size, 0, none⟩) (Hp12.out.od _ rfl).2 (.slice Ap11 f.a.length cp11)).setCell (p := ⟨wd.heap.size, 1, none⟩) (Hp12.out.od _ rfl).2 (.slice Ap12 f.b.length cp12))
                  exact hx
                clear hBD
                go_simp
                refine hK.out _ _ hS (fun _ => ?_)
                clear hK K
                refine wpAnyH_done (by kernel_rfl) ?_ _
                go_wp2_with fail
                go_meet
                exact ⟨_, rfl, Lib.hid ⟨_, _, HFI.out⟩⟩
              exact AllReadyH.nil
            exact AllReadyH.nil
          exact AllReadyH.nil
        exact AllReadyH.nil
      case rest =>
        obtain ⟨D, rfl, HS4⟩ := hcut
        clear HW1 HW2 HC HX2 HR2 HB2 HRR HB3
        go_wp2_with fail
        go_loopw [2, 10, 11, 31] (fun kv _ _ i wr => ∃ (j kk : Nat) (g : Fls), j ≤ n ∧ i = .int .i64 (j : Int) ∧ kv = .int .i64 (kk : Int) ∧ Hid (OutP w R D 112 ws (apP ws (stepsP ws k) f) j kk g wr)) (fun _ _ _ i _ => n - (intOf i).toNat)
        case atStart => exact ⟨0, KK, f, by omega, rfl, rfl, Lib.hid ⟨HS4.out, by rw [List.drop_zero, HKK.out], by rw [List.drop_zero, ← HCW.out]; omega, hbK⟩⟩
        case round =>
          clear HS4 HKK
          obtain ⟨j, kk, g, hj, rfl, rfl, HO⟩ := hrel
          by_cases hlt : j < n
          · skip
            have hI : (j : Int) < (n : Int) := by omega
            obtain ⟨x, hx⟩ : ∃ x, ws[j]? = some x := ⟨ws[j]'(by rw [← HLN.out]; exact hlt), List.getElem?_eq_getElem _⟩
            have hdr : ws.drop j = x :: ws.drop (j + 1) := by
              obtain ⟨hl, rfl⟩ := List.getElem?_eq_some_iff.1 hx
              exact List.drop_eq_getElem_cons hl
            obtain ⟨v0, v1, hst⟩ := HO.out.st
            obtain ⟨gb, o, bA, bc, rfl, hgb, c0, c1, c2, hr, hcp⟩ := H.out.at_ j x hx
            rw [← hst.below.cell (p := ⟨gb, o + j * 3, none⟩) hgb] at c0
            rw [← hst.below.cell (p := ⟨gb, o + j * 3 + 1, none⟩) hgb] at c1
            rw [← hst.below.cell (p := ⟨gb, o + j * 3 + 2, none⟩) hgb] at c2
            have HHR : Hid (∀ W, Below w.heap.size w W → RdB W w.heap.size bA x.bs.length x.bs) := Lib.hid fun W hW => hr.below hW
            have hXB := Blk.new wr 94 #[.int .i64 x.file, .bool x.start, .slice bA x.bs.length bc]
            have hbx := one_box' wr (.cells #[.int .i64 x.file, .bool x.start, .slice bA x.bs.length bc] 94)
            obtain ⟨wx, hwx⟩ : ∃ wx, wx = wr.alloc (.cells #[.int .i64 x.file, .bool x.start, .slice bA x.bs.length bc] 94) := ⟨_, rfl⟩
            rw [← hwx] at hXB hbx
            have HWX := Lib.hid hwx
            have hsx := hst.over hbx
            have z0 : wx.cell? ⟨wr.heap.size, 0, none⟩ = some (.int .i64 x.file) := hXB.cell 0
            have z1 : wx.cell? ⟨wr.heap.size, 1, none⟩ = some (.bool x.start) := hXB.cell 1
            have HXB := Lib.hid hXB
            have HXD : Hid (wr.heap.size ≠ D) := Lib.hid fun e => by have := hst.fl.blk.lt; omega
            have HDR := Lib.hid hdr
            have hkb := HO.out.kb
            clear hwx hXB hbx hx hdr hr hst
            go_upto_region 8 with fail
            rw [← HWX.out]
            clear c0 c1 c2 HWX
            by_cases hok : x.ok = true
            · obtain ⟨fi, hfi, hfi2⟩ : ∃ fi : Nat, x.file = (fi : Int) ∧ (fi = 0 ∨ fi = 1) := by
                rcases wr_ok.1 hok with e | e
                · exact ⟨0, e, .inl rfl⟩
                · exact ⟨1, e, .inr rfl⟩
              have hib : ((fi : Int) = 0 ∨ (fi : Int) = 1) := by omega
              have hf2 : (fi : Int) < 2 := by omega
              rw [hfi] at z0 HXB
              have HFI := Lib.hid hfi
              have hbb : ((fi : Int) != 0) = false ∨ (((fi : Int) != 0) = true ∧ ((fi : Int) != 1) = false) := by
                rcases hfi2 with rfl | rfl
                · exact .inl rfl
                · exact .inr ⟨rfl, rfl⟩
              have HIB := Lib.hid hib
              have HOK := Lib.hid hok
              have hcost : x.bs.length + costW (ws.drop (j + 1)) ≤ costW (ws.drop j) := by
                rw [HDR.out, costW_cons]
                unfold Wr.cost
                rw [if_pos hok]
                omega
              obtain ⟨f1, hf1⟩ : ∃ f1, f1 = (if x.start = true ∧ 0 < kk then g.put (fi : Int) [] else g) := ⟨_, rfl⟩
              obtain ⟨k1, hk1⟩ : ∃ k1, k1 = (if x.start = true ∧ 0 < kk then kk - 1 else kk) := ⟨_, rfl⟩
              have hk1b : k1 ≤ 4398046511104 := by rw [hk1]; split <;> omega
              have hf1l : f1.a.length + f1.b.length ≤ g.a.length + g.b.length := by
                rw [hf1]
                unfold Fls.put
                repeat' split
                all_goals simp
              obtain ⟨L, hL⟩ : ∃ L, L = x.bs.length := ⟨_, rfl⟩
              obtain ⟨nn, hnn⟩ : ∃ nn, nn = min k1 L := ⟨_, rfl⟩
              obtain ⟨f2, hf2'⟩ : ∃ f2, f2 = f1.put (fi : Int) (f1.get (fi : Int) ++ x.bs.take nn) := ⟨_, rfl⟩
              have hnL : nn ≤ L ∧ nn ≤ k1 := by omega
              have HGO : Hid ((k1 - nn = 0 → f2 = apP ws (stepsP ws k) f) ∧ (k1 - nn ≠ 0 → apP (ws.drop (j + 1)) (k1 - nn) f2 = apP ws (stepsP ws k) f)) := Lib.hid (by
                have h1 := HO.out.go
                rw [HDR.out] at h1
                rw [apP_ok (f1 := f1) (f2 := f2) (k1 := k1) (nn := nn) _ _ _ hok (by rw [hfi]; exact hf1) hk1 (by rw [← hL]; exact hnn) (by rw [hfi]; exact hf2')] at h1
                refine ⟨fun e => ?_, fun e => ?_⟩
                · rwa [if_pos e] at h1
                · rwa [if_neg e] at h1)
              have HLEN : Hid (f1.a.length + f1.b.length + x.bs.length + costW (ws.drop (j + 1)) ≤ 13194139533312) := Lib.hid (by
                have h1 := HO.out.len
                omega)
              have HF1 := Lib.hid hf1
              have HK1 := Lib.hid hk1
              have HL := Lib.hid hL
              have HNN := Lib.hid hnn
              have HF2 := Lib.hid hf2'
              have hways : (x.start = true ∧ 0 < kk) ∨ (x.start = true ∧ ¬ 0 < kk) ∨ x.start = false := by
                cases x.start <;> simp <;> omega
              have hsd0 := hsx.fl.cell hib
              rw [Int.toNat_natCast] at hsd0
              have hown := hsx.fl.own (fi : Int)
              obtain ⟨vf, hvf⟩ : ∃ vf, vf = vget v0 v1 (fi : Int) := ⟨_, rfl⟩
              rw [← hvf] at hsd0 hown
              obtain ⟨A5, c5, hv5, hcM, _⟩ := own_shape hown
              have HCUT : Hid (∀ W, Below wx.heap.size wx W → W.cell? ⟨wr.heap.size, 0, none⟩ = some (.int .i64 (fi : Int)) ∧ W.cell? ⟨D, fi, none⟩ = some vf ∧ W.frozen? ⟨D, fi, none⟩ = false ∧ (∃ v0 v1, ApSt w R D 112 (W.setCell ⟨D, fi, none⟩ (.slice A5 0 c5)) v0 v1 (g.put (fi : Int) [])) ∧ Blk (W.setCell ⟨D, fi, none⟩ (.slice A5 0 c5)) wr.heap.size 94 #[.int .i64 (fi : Int), .bool x.start, .slice bA x.bs.length bc]) := Lib.hid fun W hW => by
                have hcl := (hsx.over hW).fl.cell hib
                rw [Int.toNat_natCast, ← hvf] at hcl
                exact ⟨(HXB.out.over hW).cell 0, hcl, (hsx.over hW).fl.blk.frozen fi, (hsx.over hW).cut hib (hvf.symm.trans hv5) rfl, (HXB.out.over hW).far HXD.out _⟩
              subst hv5
              obtain ⟨M, hM⟩ : ∃ M, M = (g.get (fi : Int)).length := ⟨_, rfl⟩
              rw [← hM] at hsd0 HCUT
              rw [← hL] at HCUT
              have qd0 : wx.frozen? ⟨D, fi, none⟩ = false := hsx.fl.blk.frozen fi
              have HSX := Lib.hid hsx
              rw [← hL] at HXB hcp
              have HKX := HXB
              clear hvf hsx hfi hfi2 hcost hok HXB hib hf1 hk1 hL hnn hf2' hf1l hM hown
              generalize wr.heap.size = X at *
              go_cut [42] from 32 to 81 (fun t wc => t = .bool false ∧ Hid (wc = wx))
              case first =>
                rcases hbb with b0 | ⟨b0, b1⟩
                · go_wp2_with fail
                  go_meet
                  exact ⟨rfl, Lib.hid rfl⟩
                · go_wp2_with fail
                  go_meet
                  exact ⟨rfl, Lib.hid rfl⟩
              case rest =>
                obtain ⟨rfl, HWC⟩ := hcut
                rw [HWC.out]
                clear HWC hbb
                obtain ⟨gb0, hgb0⟩ : ∃ gb0, gb0 = decide (x.start = true ∧ 0 < kk) := ⟨_, rfl⟩
                have HGB := Lib.hid hgb0
                clear hgb0
                go_upto_region 9 with fail
                go_cut [48] from 32 to 81 (fun t wc => t = .bool gb0 ∧ Hid (wc = wx))
                case first =>
                  rcases hways with ⟨hs, hl⟩ | ⟨hs, hl⟩ | hs
                  · have HE : Hid (gb0 = true) := Lib.hid (by rw [HGB.out]; simp [hs, hl])
                    rw [hs] at z1
                    clear hs
                    go_wp2_with fail
                    go_meet
                    exact ⟨by rw [HE.out], Lib.hid rfl⟩
                  · have HE : Hid (gb0 = false) := Lib.hid (by rw [HGB.out]; simp [hl])
                    obtain rfl : kk = 0 := by omega
                    rw [hs] at z1
                    clear hs hl
                    go_wp2_with fail
                    go_meet
                    exact ⟨by rw [HE.out], Lib.hid rfl⟩
                  · have HE : Hid (gb0 = false) := Lib.hid (by rw [HGB.out]; simp [hs])
                    rw [hs] at z1
                    clear hs
                    go_wp2_with fail
                    go_meet
                    exact ⟨by rw [HE.out], Lib.hid rfl⟩
                case rest =>
                  obtain ⟨rfl, HWC⟩ := hcut
                  rw [HWC.out]
                  clear HWC hways z1
                  go_upto_if 48 with fail
                  go_cut [2] from 32 to 81 (fun kv wc => kv = .int .i64 (k1 : Int) ∧ Hid (∃ v0 v1, ApSt w R D 112 wc v0 v1 f1) ∧ Hid (Blk wc X 94 #[.int .i64 (fi : Int), .bool x.start, .slice bA L bc]))
                  case first =>
                    cases gb0 with
                    | true =>
                      have hgb : x.start = true ∧ 0 < kk := by have := HGB.out; simpa using this
                      have HA : Hid (f1 = g.put (fi : Int) []) := Lib.hid (by rw [HF1.out, if_pos hgb])
                      have hke : k1 = kk - 1 := by rw [HK1.out, if_pos hgb]
                      have hwr : IntKind.i64.wrap ((kk : Int) - 1) = (k1 : Int) := by rw [IntWalk.i64_in _ (by omega)]; omega
                      clear hgb hke
                      go_upto_region 10 with fail
                      obtain ⟨wd, hwd⟩ : ∃ wd, wd = wx.drew := ⟨_, rfl⟩
                      obtain ⟨e0, e1, e2, hcut, hbox⟩ := HCUT.out wd (by rw [hwd]; exact below_drewN (Below.refl _ _) 1)
                      have HCT := Lib.hid hcut
                      have HBX := Lib.hid hbox
                      have HWD := Lib.hid hwd
                      clear hcut hbox hwd hsd0 qd0 z0
                      refine region_tail 8 (by kernel_rfl) (by kernel_rfl) ?_
                      simp only [List.take_succ_cons, List.take_zero, List.drop_succ_cons, List.drop_zero]
                      rw [← HWD.out]
                      repeat still_step
                      refine wpStill_nil ?_
                      change wpList _ _ _ _ _ wd
                      go_wp2_with fail
                      go_meet
                      exact ⟨rfl, Lib.hid (by rw [HA.out]; exact HCT.out), HBX⟩
                    | false =>
                      have hgb : ¬ (x.start = true ∧ 0 < kk) := by have := HGB.out; simpa using this
                      have HA : Hid (f1 = g) := Lib.hid (by rw [HF1.out, if_neg hgb])
                      have HB : Hid (k1 = kk) := Lib.hid (by rw [HK1.out, if_neg hgb])
                      clear hgb
                      go_wp2_with fail
                      go_meet
                      exact ⟨by rw [HB.out], Lib.hid (by rw [HA.out]; exact ⟨_, _, HSX.out⟩), Lib.hid HKX.out⟩
                  case rest =>
                    obtain ⟨rfl, HSY, HBY⟩ := hcut
                    clear hsd0 qd0 z0 HSX HKX HCUT
                    obtain ⟨wy, HWY⟩ : ∃ wy, Hid (wc = wy) := ⟨_, Lib.hid rfl⟩
                    rw [HWY.out] at HSY HBY ⊢
                    clear HWY
                    have z0 : wy.cell? ⟨X, 0, none⟩ = some (.int .i64 (fi : Int)) := HBY.out.cell 0
                    have z2 : wy.cell? ⟨X, 2, none⟩ = some (.slice bA L bc) := HBY.out.cell 2
                    go_upto_region 12 with fail
                    go_cut [11] from 32 to 81 (fun t wc => t = .int .i64 (nn : Int) ∧ Hid (wc = wy))
                    case first =>
                      by_cases hLk : (L : Int) < (k1 : Int)
                      · have HE : Hid (nn = L) := Lib.hid (by have := HNN.out; omega)
                        go_wp2_with fail
                        go_meet
                        exact ⟨by rw [HE.out], Lib.hid rfl⟩
                      · have HE : Hid (nn = k1) := Lib.hid (by have := HNN.out; omega)
                        have hLk2 : decide ((L : Int) < (k1 : Int)) = false := by simpa using hLk
                        go_wp2_with fail
                        go_meet
                        exact ⟨by rw [HE.out], Lib.hid rfl⟩
                    case rest =>
                      obtain ⟨rfl, HWC⟩ := hcut
                      rw [HWC.out]
                      clear HWC z2
                      go_upto_region 13 with fail
                      go_cut [] from 32 to 81 (fun wc => Hid (∃ v0 v1, ApSt w R D 112 wc v0 v1 f2))
                      case first =>
                        obtain ⟨va, vb, hst⟩ := HSY.out
                        obtain ⟨wd, hwd⟩ : ∃ wd, wd = wy.drew := ⟨_, rfl⟩
                        have hbd : Below wy.heap.size wy wd := by rw [hwd]; exact below_drewN (Below.refl _ _) 1
                        obtain ⟨A6, c6, hfd, hown, hfin⟩ := hst.app HIB.out hbd (x.bs.take nn)
                        have hln : (x.bs.take nn).length = nn := by rw [List.length_take, ← HL.out]; omega
                        rw [hln] at hfin
                        have HF2' : Hid (f1.put (fi : Int) (f1.get (fi : Int) ++ x.bs.take nn) = f2) := Lib.hid HF2.out.symm
                        have hMb : (f1.get (fi : Int)).length + nn ≤ 13194139533312 := by
                          have h1 := HLEN.out
                          have h2 := f1.get_len (fi : Int)
                          rw [← HL.out] at h1
                          omega
                        generalize hML : f1.get (fi : Int) = ML at *
                        obtain ⟨M2, hM2⟩ : ∃ M2, M2 = ML.length := ⟨_, rfl⟩
                        rw [← hM2] at hfd hown hfin hMb
                        have hbwd : Below w.heap.size w wd := hst.below.trans (hbd.mono hst.below.size)
                        have hrd := (HHR.out wd hbwd)
                        rw [← HL.out] at hrd
                        have HRT := Lib.hid (Rd.takeB hrd hnL.1)
                        have hsD : w.heap.size ≤ wd.heap.size := hbwd.size
                        have HS0 : Hid (wd.cell? ⟨X, 0, none⟩ = some (.int .i64 (fi : Int)) ∧ wd.cell? ⟨X, 2, none⟩ = some (.slice bA L bc)) := Lib.hid ⟨(HBY.out.over hbd).cell 0, (HBY.out.over hbd).cell 2⟩
                        have HBD := Lib.hid (HBY.out.over hbd)
                        have HOWN := Lib.hid hown
                        have HFIN := Lib.hid hfin
                        have HWD := Lib.hid hwd
                        have hnLi : (nn : Int) ≤ (bc : Int) := by omega
                        clear hst hown hfin hwd hML hM2 hbwd hrd hbd hln z0
                        refine wp_region_held_drew (S := fun W => W.cell? ⟨X, 0, none⟩ = some (.int .i64 (fi : Int)) ∧ W.cell? ⟨X, 2, none⟩ = some (.slice bA L bc)) (by kernel_rfl) (by rw [← HWD.out]; exact HS0.out) (fun hsw => ?_)
                        rw [← HWD.out] at hsw ⊢
                        refine wpAnyH_take (i := 0) (oi := ?oi0s) (v := ?v0s) ?hi0s (by kernel_rfl) (by kernel_rfl) (by kernel_rfl) ?hq0s ?hy0s (by assumption) ?rest0s
                        case hi0s => (simp only [List.getElem?_toArray, List.getElem?_cons_zero]; rfl)
                        case hy0s => (refine Or.inl ⟨by rfl, ?_⟩; intro w hSw; (try dsimp only at hSw); go_simp; try with_reducible rfl)
                        case hq0s => exact fun _ _ _ h => h
                        try simp only [Act.put, List.setIfInBounds_toArray, List.set_cons_zero, List.set_cons_succ]
                        refine wpAnyH_take (i := 1) (oi := ?oi1s) (v := ?v1s) ?hi1s (by kernel_rfl) (by kernel_rfl) (by kernel_rfl) ?hq1s ?hy1s (by assumption) ?rest1s
                        case hi1s => (simp only [List.getElem?_toArray, List.getElem?_cons_zero, List.getElem?_cons_succ]; rfl)
                        case hy1s => (refine Or.inl ⟨by rfl, ?_⟩; intro w hSw; (try dsimp only at hSw); go_simp; try with_reducible rfl)
                        case hq1s => exact fun _ _ _ h => h
                        try simp only [Act.put, List.setIfInBounds_toArray, List.set_cons_zero, List.set_cons_succ]
                        refine wpAnyH_take (i := 2) (oi := ?oi2s) (v := ?v2s) ?hi2s (by kernel_rfl) (by kernel_rfl) (by kernel_rfl) ?hq2s ?hy2s (by assumption) ?rest2s
                        case hi2s => (simp only [List.getElem?_toArray, List.getElem?_cons_zero, List.getElem?_cons_succ]; rfl)
                        case hy2s => (refine Or.inl ⟨by rfl, ?_⟩; intro w hSw; (try dsimp only at hSw); go_simp; try with_reducible rfl)
                        case hq2s => exact fun _ _ _ h => h
                        try simp only [Act.put, List.setIfInBounds_toArray, List.set_cons_zero, List.set_cons_succ]
                        refine wpAnyH_take (i := 3) (oi := ?oi3s) (v := ?v3s) ?hi3s (by kernel_rfl) (by kernel_rfl) (by kernel_rfl) ?hq3s ?hy3s (by assumption) ?rest3s
                        case hi3s => (simp only [List.getElem?_toArray, List.getElem?_cons_zero, List.getElem?_cons_succ]; rfl)
                        case hy3s => (refine Or.inl ⟨by rfl, ?_⟩; intro w hSw; (try dsimp only at hSw); go_simp; try with_reducible rfl)
                        case hq3s => exact fun _ _ _ h => h
                        try simp only [Act.put, List.setIfInBounds_toArray, List.set_cons_zero, List.set_cons_succ]
                        refine wpAnyH_take (i := 4) (oi := ?oi4s) (v := ?v4s) ?hi4s (by kernel_rfl) (by kernel_rfl) (by kernel_rfl) ?hq4s ?hy4s (by assumption) ?rest4s
                        case hi4s => (simp only [List.getElem?_toArray, List.getElem?_cons_zero, List.getElem?_cons_succ]; rfl)
                        case hy4s => (refine Or.inl ⟨by rfl, ?_⟩; intro w hSw; (try dsimp only at hSw); go_simp; try with_reducible rfl)
                        case hq4s => exact fun _ _ _ h => h
                        try simp only [Act.put, List.setIfInBounds_toArray, List.set_cons_zero, List.set_cons_succ]
                        refine wpAnyH_take (i := 6) (oi := ?oi6s) (v := ?v6s) ?hi6s (by kernel_rfl) (by kernel_rfl) (by kernel_rfl) ?hq6s ?hy6s (by assumption) ?rest6s
                        case hi6s => (simp only [List.getElem?_toArray, List.getElem?_cons_zero, List.getElem?_cons_succ]; rfl)
                        case hy6s => (refine Or.inl ⟨by rfl, ?_⟩; intro w hSw; (try dsimp only at hSw); go_simp; try with_reducible rfl)
                        case hq6s => exact fun _ _ _ h => h
                        try simp only [Act.put, List.setIfInBounds_toArray, List.set_cons_zero, List.set_cons_succ]
                        refine wpAnyH_take (i := 7) (oi := ?oi7s) (v := ?v7s) ?hi7s (by kernel_rfl) (by kernel_rfl) (by kernel_rfl) ?hq7s ?hy7s (by assumption) ?rest7s
                        case hi7s => (simp only [List.getElem?_toArray, List.getElem?_cons_zero, List.getElem?_cons_succ]; rfl)
                        case hy7s => (refine Or.inl ⟨by rfl, ?_⟩; intro w hSw; (try dsimp only at hSw); go_simp; try with_reducible rfl)
                        case hq7s => exact fun _ _ _ h => h
                        try simp only [Act.put, List.setIfInBounds_toArray, List.set_cons_zero, List.set_cons_succ]
                        refine wpAnyH_take (i := 8) (oi := ?oi8s) (v := ?v8s) ?hi8s (by kernel_rfl) (by kernel_rfl) (by kernel_rfl) ?hq8s ?hy8s (by assumption) ?rest8s
                        case hi8s => (simp only [List.getElem?_toArray, List.getElem?_cons_zero, List.getElem?_cons_succ]; rfl)
                        case hy8s => (refine Or.inl ⟨by rfl, ?_⟩; intro w hSw; (try dsimp only at hSw); go_simp; try with_reducible rfl)
                        case hq8s => exact fun _ _ _ h => h
                        try simp only [Act.put, List.setIfInBounds_toArray, List.set_cons_zero, List.set_cons_succ]
                        refine wpAnyH_take (i := 9) (oi := ?oi9s) (v := ?v9s) ?hi9s (by kernel_rfl) (by kernel_rfl) (by kernel_rfl) ?hq9s ?hy9s (by assumption) ?rest9s
                        case hi9s => (simp only [List.getElem?_toArray, List.getElem?_cons_zero, List.getElem?_cons_succ]; rfl)
                        case hy9s => (refine Or.inl ⟨by rfl, ?_⟩; intro w hSw; (try dsimp only at hSw); go_simp; try with_reducible rfl)
                        case hq9s => exact fun _ _ _ h => h
                        try simp only [Act.put, List.setIfInBounds_toArray, List.set_cons_zero, List.set_cons_succ]
                        refine wpAnyH_ready (rs := [5]) (by kernel_rfl) (by simp) ?_
                        refine AllReadyH.cons (o := ?o5s) ?ho5s (fun K hK => ?st5s) ?mo5s
                        case ho5s => (simp only [List.getElem?_toArray, List.getElem?_cons_zero, List.getElem?_cons_succ]; rfl)
                        · skip
                          go_simp
                          refine hK.out _ _ HS0.out (fun _ => ?_)
                          clear hK K
                          try simp only [Act.put, List.setIfInBounds_toArray, List.set_cons_zero, List.set_cons_succ]
                          refine wpAnyH_ready (rs := [10]) (by kernel_rfl) (by simp) ?_
                          refine AllReadyH.cons (o := ?o10s) ?ho10s (fun K hK => ?st10s) ?mo10s
                          case ho10s => (simp only [List.getElem?_toArray, List.getElem?_cons_zero, List.getElem?_cons_succ]; rfl)
                          · skip
                            refine step_append_any wd (by rfl) _ _ 22 (by rfl) w.heap.size 5 i0 _ 1 1 u_bytes hi0 hz0 hz1 hz2 rfl (by decide) (.slice A6 M2 c6) M2 (bvs ML) (by rfl) HOWN.out w.heap.size bA nn bc (bvs (x.bs.take nn)) (by rfl) HRT.out (bvs_one _) (by simp only [maxLen]; omega) (by omega) hsD ?_
                            intro u6 w6 ho6 hg6 hat6
                            obtain ⟨q6, d6, hX6, hb6, hI6⟩ := HFIN.out u6 w6 ho6 (Chg.of_grown hg6) (hat_new hat6 rfl)
                            obtain ⟨A7, c7, rfl, _, _⟩ := own_shape ho6
                            rw [HF2'.out] at hI6
                            have HI6 := Lib.hid hI6
                            have hX7 := hX6 X _ _ HBD.out (by decide)
                            have HS6 : Hid (w6.cell? ⟨X, 0, none⟩ = some (.int .i64 (fi : Int)) ∧ w6.cell? ⟨X, 2, none⟩ = some (.slice bA L bc)) := Lib.hid ⟨hX7.cell 0, hX7.cell 2⟩
                            have hX8 := hX7.far HXD.out (p := ⟨D, fi, none⟩) (.slice A7 (M2 + nn) c7)
                            have hS7 := And.intro (hX8.cell 0) (hX8.cell 2)
                            have HS7 := Lib.hid hS7
                            clear ho6 hg6 hat6 hX6 hb6 hI6 HFIN HOWN hfd hX7 hX8 hS7
                            refine hK.out _ _ HS6.out (fun _ => ?_)
                            clear hK K
                            try simp only [Act.put, List.setIfInBounds_toArray, List.set_cons_zero, List.set_cons_succ]
                            refine wpAnyH_take (i := 11) (oi := ?oi11s) (v := ?v11s) ?hi11s (by kernel_rfl) (by kernel_rfl) (by kernel_rfl) ?hq11s ?hy11s (by assumption) ?rest11s
                            case hi11s => (simp only [List.getElem?_toArray, List.getElem?_cons_zero, List.getElem?_cons_succ]; rfl)
                            case hy11s => (refine Or.inl ⟨by rfl, ?_⟩; intro w hSw; (try dsimp only at hSw); go_simp; try with_reducible rfl)
                            case hq11s => exact fun _ _ _ h => h
                            try simp only [Act.put, List.setIfInBounds_toArray, List.set_cons_zero, List.set_cons_succ]
                            refine wpAnyH_ready (rs := [12]) (by kernel_rfl) (by simp) ?_
                            refine AllReadyH.cons (o := ?o12s) ?ho12s (fun K hK => ?st12s) ?mo12s
                            case ho12s => (simp only [List.getElem?_toArray, List.getElem?_cons_zero, List.getElem?_cons_succ]; rfl)
                            · skip
                              go_simp
                              refine hK.out _ _ HS7.out (fun _ => ?_)
                              clear hK K
                              refine wpAnyH_done (by kernel_rfl) ?_ _
                              go_wp2_with fail
                              go_meet
                              exact HI6
                            exact AllReadyH.nil
                          exact AllReadyH.nil
                        exact AllReadyH.nil
                      case rest =>
                        have HZ := hcut
                        clear z0
                        obtain ⟨k2, hk2⟩ : ∃ k2, k2 = k1 - nn := ⟨_, rfl⟩
                        have hwr : IntKind.i64.wrap ((k1 : Int) - (nn : Int)) = (k2 : Int) := by rw [IntWalk.i64_in _ (by omega)]; omega
                        have hk2b : k2 ≤ 4398046511104 := by omega
                        have HK2 := Lib.hid hk2
                        clear hk2
                        by_cases h0 : k2 = 0
                        · have HG : Hid (f2 = apP ws (stepsP ws k) f) := Lib.hid (HGO.out.1 (by have := HK2.out; omega))
                          have e0 : ((k2 : Int) == 0) = true := by simp [h0]
                          clear h0
                          obtain ⟨v0, v1, hst⟩ := HZ.out
                          rw [HG.out] at hst
                          obtain ⟨B0, e0, B1, e1, rfl, rfl, _, _⟩ := hst.fl.rd
                          have HE := Lib.hid (hst.fin rfl rfl)
                          have z0 := HE.out.2.cell 0
                          have z1 := HE.out.2.cell 1
                          have s0 := hst.fl.blk.cell 0
                          have s1 := hst.fl.blk.cell 1
                          have t0 := hst.res.cell 0
                          have t1 := hst.res.cell 1
                          have u0 := hst.res.frozen 0
                          have u1 := hst.res.frozen 1
                          clear hst
                          obtain ⟨La, hLa⟩ : ∃ La, La = (apP ws (stepsP ws k) f).a.length := ⟨_, rfl⟩
                          obtain ⟨Lb, hLb⟩ : ∃ Lb, Lb = (apP ws (stepsP ws k) f).b.length := ⟨_, rfl⟩
                          rw [← hLa, ← hLb] at z0 z1 s0 s1 HE
                          clear hLa hLb
                          go_wp2
                          exact bodyPost_ret (v := .agg #[.slice B0 La e0, .slice B1 Lb e1]) (by simp [results, Tryd.results37, z0, z1, go_sem]) rfl HE.out.1
                        · have HN : Hid (OutP w R D 112 ws (apP ws (stepsP ws k) f) (j + 1) k2 f2 wc) := Lib.hid ⟨HZ.out, by rw [HK2.out]; exact HGO.out.2 (by have := HK2.out; omega), by
                            have h1 := HLEN.out
                            have h2 := Fls.put_len f1 (fi : Int) (x.bs.take nn)
                            rw [← HF2.out, List.length_take] at h2
                            omega, hk2b⟩
                          have e0 : ((k2 : Int) == 0) = false := by
                            have : ¬ (k2 : Int) = 0 := by omega
                            simpa using this
                          clear h0
                          go_wp2_with fail
                          go_roundw
                          case rel => exact ⟨j + 1, k2, f2, by omega, by go_num, rfl, HN⟩
                          case measure => simp [intOf] <;> omega
            · have b0 : (x.file != 0) = true := by
                have : ¬ x.file = 0 := fun e => hok (wr_ok.2 (.inl e))
                simpa using this
              have b1 : (x.file != 1) = true := by
                have : ¬ x.file = 1 := fun e => hok (wr_ok.2 (.inr e))
                simpa using this
              have HN : Hid (OutP w R D 112 ws (apP ws (stepsP ws k) f) (j + 1) kk g wx) := Lib.hid ⟨⟨_, _, hsx⟩, by
                  have := HO.out.go
                  rw [HDR.out] at this
                  rwa [apP_skip _ _ _ hok] at this, by
                  have h1 := HO.out.len
                  rw [HDR.out, costW_cons] at h1
                  omega, HO.out.kb⟩
              clear hsx hok
              go_wp2
              go_roundw
              case rel => exact ⟨j + 1, kk, g, by omega, by go_num, rfl, HN⟩
              case measure => simp [intOf] <;> omega
          · obtain rfl : j = n := by omega
            have HG : Hid (g = apP ws (stepsP ws k) f) := Lib.hid (by
              have := HO.out.go
              rw [List.drop_of_length_le (by rw [← HLN.out]; exact Nat.le_refl _)] at this
              simpa [apP] using this)
            obtain ⟨v0, v1, hst⟩ := HO.out.st
            rw [HG.out] at hst
            obtain ⟨B0, e0, B1, e1, rfl, rfl, _, _⟩ := hst.fl.rd
            have HE := Lib.hid (hst.fin rfl rfl)
            have z0 := HE.out.2.cell 0
            have z1 := HE.out.2.cell 1
            have s0 := hst.fl.blk.cell 0
            have s1 := hst.fl.blk.cell 1
            have t0 := hst.res.cell 0
            have t1 := hst.res.cell 1
            have u0 := hst.res.frozen 0
            have u1 := hst.res.frozen 1
            clear hst
            obtain ⟨La, hLa⟩ : ∃ La, La = (apP ws (stepsP ws k) f).a.length := ⟨_, rfl⟩
            obtain ⟨Lb, hLb⟩ : ∃ Lb, Lb = (apP ws (stepsP ws k) f).b.length := ⟨_, rfl⟩
            rw [← hLa, ← hLb] at z0 z1 s0 s1 HE
            clear hLa hLb
            go_wp2
            exact bodyPost_ret (v := .agg #[.slice B0 La e0, .slice B1 Lb e1]) (by simp [results, Tryd.results37, z0, z1, go_sem]) rfl HE.out.1
end Go.Proofs.YtpkdalpjfcopbaaDoor
