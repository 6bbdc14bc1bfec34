/-
  DetectTurns: keep, walked.
-/
import Derived.Test.YtfjpmoigpnmeoaaDTurM
namespace Go.Proofs.Ytfjpmoigpnmeoaa
open Go.RowKit
theorem info_il : (Try.prog.info? 22).map (fun i => (i.zero, i.size, i.bytes)) = some (some (.slice none 0 0), 1, 24) := by kernel_rfl
theorem u_ils : Try.prog.underlying 78 = some (.slice 22) := Try.underlying78
section
variable {w w' : World} {B : Nat} {F : Nat → Prop} {H : Nat} {vG vW vM vR : Value} {KL : List Gt}
/-- The list that is to be kept stands apart. -/
structure NewL (w : World) (B : Nat) (F : Nat → Prop) (vR : Value) (KL : List Gt) (v : Value) (l : List Int) : Prop where
  own : w.ownsRow B 3 1 v l.length (ivs l)
  nF : ∀ g, v.ownBlock = some g → ¬ F g
  r : Apart vR v
  g : ∀ (k : Nat) (x : Gt), KL[k]? = some x → Apart x.g v
/-- The first half: it stands in Got. -/
structure Half (w : World) (B : Nat) (F : Nat → Prop) (H : Nat) (vG vW vM vR : Value) (KL : List Gt) (l : List Int) (A : Option Addr) (cap : Nat) : Prop where
  blk : Blk w H 80 #[vG, vW, vM, vR]
  hB : B ≤ H
  hF : ¬ F H
  got : w.ownsRow B 22 1 vG (KL.length + 1) (KL.map Gt.g ++ [.slice A l.length cap])
  was : w.ownsRow B 22 1 vW KL.length (KL.map Gt.wv)
  gwr : Apart vG vW
  eg : ∀ (k : Nat) (x : Gt), KL[k]? = some x → w.ownsRow B 3 1 x.g x.l.length (ivs x.l)
  ew : ∀ (k : Nat) (x : Gt), KL[k]? = some x → w.ownsRow B 3 1 x.wv x.l.length (ivs x.l)
  room : w.ownsRow B 3 1 vR 0 []
  nF : (∀ g, vG.ownBlock = some g → ¬ F g) ∧ (∀ g, vW.ownBlock = some g → ¬ F g) ∧ (∀ g, vR.ownBlock = some g → ¬ F g)
  new : w.ownsRow B 3 1 (.slice A l.length cap) l.length (ivs l)
theorem Half.over {l : List Int} {A : Option Addr} {cap : Nat} (h : Half w B F H vG vW vM vR KL l A cap) (hb : Below w.heap.size w w') : Half w' B F H vG vW vM vR KL l A cap :=
  ⟨h.blk.over hb, h.hB, h.hF, own_over h.got hb, own_over h.was hb, h.gwr, fun k x hk => own_over (h.eg k x hk) hb, fun k x hk => own_over (h.ew k x hk) hb, own_over h.room hb, h.nF, own_over h.new hb⟩
/-- What an append to a row of lists leaves alone. -/
theorem rowl_apart {base n : Nat} {v : Value} {xs : List Value} (ho : w.ownsRow base 22 1 v n xs) {g t : Nat} {cs : Array Value} (hB : Blk w g t cs) (ht : t ≠ 22) : ¬ some g = v.ownBlock := fun e => by
  obtain ⟨_, _, cur, hC⟩ := own_block_lt ho e.symm
  exact hB.ne_ hC ht rfl
theorem int_keep {base n base2 n2 : Nat} {v u : Value} {xs ys : List Value} (ho : w.ownsRow base 22 1 v n xs) (hu : w.ownsRow base2 3 1 u n2 ys) (hc : Chg (fun k => some k = v.ownBlock) w w') : w'.ownsRow base2 3 1 u n2 ys :=
  own_chg hu hc fun g hg => by
    obtain ⟨_, _, cur, hC⟩ := own_block_lt hu hg
    exact rowl_apart ho hC (by decide)
theorem far_H {base n sz e : Nat} {v : Value} {xs : List Value} {cs : Array Value} (ho : w.ownsRow base e sz v n xs) (hB : Blk w H 80 cs) (he : e ≠ 80) (i : Nat) (u : Value) : (w.setCell ⟨H, i, none⟩ u).ownsRow base e sz v n xs :=
  own_chg ho ((Chg.refl (fun k => k = H) w).setCell (p := ⟨H, i, none⟩) (.inl rfl) u) fun g hg e2 => by
    obtain ⟨_, _, cur, hC⟩ := own_block_lt ho hg
    subst e2
    exact hC.ne_ hB he rfl
theorem HeldW.half (h : HeldW w B F H vG vW vM vR KL) {l : List Int} {A : Option Addr} {cap : Nat} (hn : NewL w B F vR KL (.slice A l.length cap) l) {w1 : World} {u : Value} (ho : w1.ownsRow B 22 1 u (KL.length + 1) (KL.map Gt.g ++ [.slice A l.length cap]))
    (hc : Chg (fun k => some k = vG.ownBlock) w w1) (hu : ∀ g, u.ownBlock = some g → vG.ownBlock = some g ∨ w.heap.size ≤ g) (hFb : ∀ k, F k → k < w.heap.size) :
    w1.frozen? ⟨H, 0, none⟩ = false ∧ w1.cell? ⟨H, 0, none⟩ = some vG ∧ Half (w1.setCell ⟨H, 0, none⟩ u) B F H u vW vM vR KL l A cap ∧ Chg (fun k => B ≤ k ∧ ¬ F k) w (w1.setCell ⟨H, 0, none⟩ u) ∧ (∀ (g t : Nat) (cs : Array Value), Blk w g t cs → t ≠ 22 → g ≠ H → Blk (w1.setCell ⟨H, 0, none⟩ u) g t cs) := by
  have hH := h.blk.chg hc (rowl_apart h.got h.blk (by decide))
  have hW := own_chg h.was hc fun g hg e => h.gwr g e.symm hg
  refine ⟨hH.frozen 0, hH.cell 0, ⟨hH.set_ 0 u, h.hB, h.hF, far_H ho hH (by decide) _ _, far_H hW hH (by decide) _ _, fun g h1 h2 => ?_, fun k x hk => far_H (int_keep h.got (h.eg k x hk) hc) hH (by decide) _ _,
    fun k x hk => far_H (int_keep h.got (h.ew k x hk) hc) hH (by decide) _ _, far_H (int_keep h.got h.room hc) hH (by decide) _ _, ⟨fun g hg hf => ?_, h.nF.2.1, h.nF.2.2⟩, far_H (int_keep h.got hn.own hc) hH (by decide) _ _⟩, ?_, fun g t cs hB ht hg => (hB.chg hc (rowl_apart h.got hB ht)).far hg _⟩
  · rcases hu g h1 with e | e
    · exact h.gwr g e h2
    · have := (own_block_lt h.was h2).1; omega
  · rcases hu g hg with e | e
    · exact h.nF.1 g e hf
    · have := hFb g hf; omega
  · refine (hc.mono fun k _ e => ?_).thenS ((Chg.refl (fun k => k = H) w1).setCell (p := ⟨H, 0, none⟩) (.inl rfl) u) fun k _ e => by rw [e]; exact ⟨h.hB, h.hF⟩
    exact ⟨(own_block_lt h.got e.symm).2.1, h.nF.1 k e.symm⟩
theorem Half.full {l : List Int} {A : Option Addr} {cap : Nat} {w0 : World} (_hw : HeldW w0 B F H vM vM vM vR KL ∨ True) (hgg : ∀ (k k' : Nat) (x x' : Gt), KL[k]? = some x → KL[k']? = some x' → k ≠ k' → Apart x.g x'.g) (hrg : ∀ (k : Nat) (x : Gt), KL[k]? = some x → Apart vR x.g ∧ Apart vR x.wv)
    (hnFe : ∀ (k : Nat) (x : Gt), KL[k]? = some x → (∀ g, x.g.ownBlock = some g → ¬ F g) ∧ (∀ g, x.wv.ownBlock = some g → ¬ F g)) (hnF : ∀ g, (Value.slice A l.length cap).ownBlock = some g → ¬ F g) (hnr : Apart vR (.slice A l.length cap)) (hng : ∀ (k : Nat) (x : Gt), KL[k]? = some x → Apart x.g (.slice A l.length cap))
    (h : Half w B F H vG vW vM vR KL l A cap) {g2 : Nat} (hg2 : w.heap.size ≤ g2 ∧ ∀ k, F k → k < g2) {wg : World} (hbg : Below w.heap.size w wg) (hB2 : wg.ownsRow B 3 1 (.slice (some ⟨g2, 0, none⟩) l.length l.length) l.length (ivs l)) {w1 : World} {u : Value} (ho : w1.ownsRow B 22 1 u (KL.length + 1) (KL.map Gt.wv ++ [.slice (some ⟨g2, 0, none⟩) l.length l.length]))
    (hc : Chg (fun k => some k = vW.ownBlock) wg w1) (hu : ∀ g, u.ownBlock = some g → vW.ownBlock = some g ∨ wg.heap.size ≤ g) (hFb : ∀ k, F k → k < w.heap.size) :
    w1.frozen? ⟨H, 1, none⟩ = false ∧ w1.cell? ⟨H, 1, none⟩ = some vW ∧ HeldW (w1.setCell ⟨H, 1, none⟩ u) B F H vG u vM vR (KL ++ [⟨l, A, cap, some ⟨g2, 0, none⟩, l.length⟩]) ∧ Chg (fun k => B ≤ k ∧ ¬ F k) w (w1.setCell ⟨H, 1, none⟩ u) ∧ (∀ (g t : Nat) (cs : Array Value), Blk w g t cs → t ≠ 22 → g ≠ H → Blk (w1.setCell ⟨H, 1, none⟩ u) g t cs) := by
  clear _hw
  have hb := h.over hbg
  have hs := hbg.size
  have hH := hb.blk.chg hc (rowl_apart hb.was hb.blk (by decide))
  have hG := own_chg hb.got hc fun g hg e => hb.gwr g hg e.symm
  have sn : ∀ {k : Nat} {x : Gt}, (KL ++ [(⟨l, A, cap, some ⟨g2, 0, none⟩, l.length⟩ : Gt)])[k]? = some x → KL[k]? = some x ∨ (k = KL.length ∧ x = ⟨l, A, cap, some ⟨g2, 0, none⟩, l.length⟩) := fun {k x} hk => by
    rcases Nat.lt_or_ge k KL.length with h1 | h1
    · rw [List.getElem?_append_left h1] at hk
      exact .inl hk
    · rw [List.getElem?_append_right h1] at hk
      have : k - KL.length = 0 := by
        have := (List.getElem?_eq_some_iff.1 hk).1
        simp at this
        omega
      rw [this] at hk
      simp at hk
      exact .inr ⟨by omega, hk.symm⟩
  refine ⟨hH.frozen 1, hH.cell 1, ⟨hH.set_ 1 u, h.hB, h.hF, ?_, ?_, fun g h1 h2 => ?_, fun k x hk => ?_, fun k x hk => ?_, far_H (int_keep hb.was hb.room hc) hH (by decide) _ _, fun k k' x x' hk hk' hne => ?_, fun k x hk => ?_, ⟨h.nF.1, fun g hg hf => ?_, h.nF.2.2⟩, fun k x hk => ?_⟩, ?_, fun g t cs hB ht hg => ((hB.over hbg).chg hc (rowl_apart hb.was (hB.over hbg) ht)).far hg _⟩
  · rw [List.map_append, List.length_append]
    exact far_H hG hH (by decide) _ _
  · rw [List.map_append, List.length_append]
    exact far_H ho hH (by decide) _ _
  · rcases hu g h2 with e | e
    · exact hb.gwr g h1 e
    · have := (own_block_lt hb.got h1).1; omega
  · rcases sn hk with e | ⟨_, rfl⟩
    · exact far_H (int_keep hb.was (hb.eg k x e) hc) hH (by decide) _ _
    · exact far_H (int_keep hb.was hb.new hc) hH (by decide) _ _
  · rcases sn hk with e | ⟨_, rfl⟩
    · exact far_H (int_keep hb.was (hb.ew k x e) hc) hH (by decide) _ _
    · exact far_H (int_keep hb.was hB2 hc) hH (by decide) _ _
  · rcases sn hk with e | ⟨e1, e2⟩ <;> rcases sn hk' with e3 | ⟨e3, e4⟩
    · exact hgg k k' x x' e e3 hne
    · rw [e4]; exact hng k x e
    · rw [e2]; exact (hng k' x' e3).symm
    · omega
  · rcases sn hk with e | ⟨_, rfl⟩
    · exact hrg k x e
    · refine ⟨hnr, fun g h1 h2 => ?_⟩
      simp only [Gt.wv, Value.ownBlock, Option.some.injEq] at h2
      have := (own_block_lt h.room h1).1
      omega
  · rcases hu g hg with e | e
    · exact h.nF.2.1 g e hf
    · have := hFb g hf; omega
  · rcases sn hk with e | ⟨_, rfl⟩
    · exact hnFe k x e
    · refine ⟨hnF, fun g h2 hf => ?_⟩
      simp only [Gt.wv, Value.ownBlock, Option.some.injEq] at h2
      have := hg2.2 g hf
      omega
  · refine ((Chg.of_below hbg _).thenS hc fun k hk e => ?_).thenS ((Chg.refl (fun k => k = H) w1).setCell (p := ⟨H, 1, none⟩) (.inl rfl) u) fun k _ e => by rw [e]; exact ⟨h.hB, h.hF⟩
    exact ⟨(own_block_lt hb.was e.symm).2.1, h.nF.2.1 k e.symm⟩
set_option maxRecDepth 100000 in
set_option maxHeartbeats 3200000 in
theorem keep_any (h : HeldW w B F H vG vW vM vR KL) (l : List Int) (A : Option Addr) (cap : Nat) (hn : NewL w B F vR KL (.slice A l.length cap) l) (hFb : ∀ k, F k → k < w.heap.size) (hBw : B ≤ w.heap.size) (hl : l.length ≤ 17592186044416) (hk : KL.length ≤ 1048576) :
    Calls Try.prog 60 #[.pointer (some ⟨H, 0, none⟩), .slice A l.length cap] w fun e w' => e = .returned (.tuple #[]) ∧ ∃ vG' vW' g2, HeldW w' B F H vG' vW' vM vR (KL ++ [⟨l, A, cap, some ⟨g2, 0, none⟩, l.length⟩]) ∧ Chg (fun k => B ≤ k ∧ ¬ F k) w w' ∧ (∀ (g t : Nat) (cs : Array Value), Blk w g t cs → t ≠ 22 → g ≠ H → Blk w' g t cs) := by
  obtain ⟨i0, hi0, hz0, hz1, hz2⟩ := info_parts info_il
  have HH := Lib.hid h
  have HN := Lib.hid hn
  have HFB := Lib.hid hFb
  obtain ⟨AG, cG, hvG, _, _⟩ := own_shape h.got
  obtain ⟨AW, cW, hvW, _, _⟩ := own_shape h.was
  have c0 : w.cell? ⟨H, 0, none⟩ = some (.slice AG KL.length cG) := by rw [← hvG]; exact h.blk.cell 0
  have HVG := Lib.hid hvG
  have HVW := Lib.hid hvW
  have hog := h.got
  rw [hvG] at hog
  have HOG := Lib.hid hog
  clear h hn hFb hvG hvW hog
  go_enter Try.func60, Try.ntmps60
  go_upto_region 1 with
    (at_builtin
     refine appN2 w (by rfl) _ _ 78 (by rfl) B 22 i0 _ 1 24 u_ils hi0 hz0 hz1 hz2 rfl (by decide) (.slice AG KL.length cG) KL.length (KL.map Gt.g) (by rfl) HOG.out #[.slice A l.length cap] rfl (by rfl) (by simp; rfl) (by simp only [maxLen]; omega) (by omega) hBw ?_
     intro u1 w1 ho1 _ hg1 hat1
     have hhf := HH.out.half HN.out ho1 (by rw [HVG.out]; exact Chg.of_grown hg1) (by
       rw [HVG.out]
       exact fun g hg => hat1.elim (fun e => .inl (e ▸ hg)) (fun e => .inr (by rw [e] at hg; injection hg with hg; omega))) HFB.out
     obtain ⟨q1, d1, hh1, hc1, hk1⟩ := hhf
     rw [HVG.out] at d1
     obtain ⟨A1, c1, rfl, _, _⟩ := own_shape ho1
     have HH1 := Lib.hid hh1
     have HC1 := Lib.hid hc1
     have HK1 := Lib.hid hk1
     clear ho1 hg1 hat1 hh1 hc1 hk1)
  obtain ⟨w2, hw2⟩ : ∃ w2, w2 = w1.setCell ⟨H, 0, none⟩ (.slice A1 (KL.length + 1) c1) := ⟨_, rfl⟩
  rw [← hw2] at HH1 HC1 HK1
  rw [← hw2]
  obtain ⟨wd, hwd⟩ : ∃ wd, wd = w2.drew := ⟨_, rfl⟩
  have hbd : Below w2.heap.size w2 wd := by rw [hwd]; exact below_drewN (Below.refl _ _) 1
  have HHD := Lib.hid (HH1.out.over hbd)
  have HCD : Hid (Chg (fun k => B ≤ k ∧ ¬ F k) w wd) := Lib.hid (HC1.out.thenS (Chg.of_below hbd (fun _ => False)) fun _ _ e => e.elim)
  have HTC : Hid (∀ W, Below wd.heap.size wd W → W.cell? ⟨H, 1, none⟩ = some (.slice AW KL.length cW)) := Lib.hid fun W hW => by
    have := (HHD.out.over hW).blk.cell 1
    rw [HVW.out] at this
    exact this
  have HKD : Hid (∀ (g t : Nat) (cs : Array Value), Blk w g t cs → t ≠ 22 → g ≠ H → Blk wd g t cs) := Lib.hid fun g t cs hB ht hg => (HK1.out g t cs hB ht hg).over hbd
  have HCP := Lib.hid (copied_any A l.length cap l wd (Rd.of_own HHD.out.new) hl)
  have hBd : B ≤ wd.heap.size := Nat.le_trans hBw HCD.out.size
  have HFD : Hid (∀ k, F k → k < wd.heap.size) := Lib.hid fun k hk => Nat.lt_of_lt_of_le (HFB.out k hk) HCD.out.size
  have HWD := Lib.hid hwd
  clear hwd hbd hw2 q1 d1 c0
  refine wp_region_held_drew (S := fun _ => True) (by kernel_rfl) trivial (fun _ => ?_)
  rw [← HWD.out]
  refine wpAnyH_take (i := 0) (oi := ?oi0a) (v := ?v0a) ?hi0a (by kernel_rfl) (by kernel_rfl) (by kernel_rfl) ?hq0a ?hy0a (by assumption) ?rest0a
  case hi0a => (simp only [List.getElem?_toArray, List.getElem?_cons_zero]; rfl)
  case hy0a => (refine Or.inl ⟨by rfl, ?_⟩; intro w hSw; (try dsimp only at hSw); go_simp; try with_reducible rfl)
  case hq0a => exact fun _ _ _ h => h
  try simp only [Act.put, List.setIfInBounds_toArray, List.set_cons_zero, List.set_cons_succ]
  refine wpAnyH_take (i := 1) (oi := ?oi1a) (v := ?v1a) ?hi1a (by kernel_rfl) (by kernel_rfl) (by kernel_rfl) ?hq1a ?hy1a (by assumption) ?rest1a
  case hi1a => (simp only [List.getElem?_toArray, List.getElem?_cons_zero, List.getElem?_cons_succ]; rfl)
  case hy1a => (refine Or.inl ⟨by rfl, ?_⟩; intro w hSw; (try dsimp only at hSw); go_simp; try with_reducible rfl)
  case hq1a => exact fun _ _ _ h => h
  try simp only [Act.put, List.setIfInBounds_toArray, List.set_cons_zero, List.set_cons_succ]
  refine wpAnyH_take (i := 2) (oi := ?oi2a) (v := ?v2a) ?hi2a (by kernel_rfl) (by kernel_rfl) (by kernel_rfl) ?hq2a ?hy2a (by assumption) ?rest2a
  case hi2a => (simp only [List.getElem?_toArray, List.getElem?_cons_zero, List.getElem?_cons_succ]; rfl)
  case hy2a => (refine Or.inl ⟨by rfl, ?_⟩; intro w hSw; (try dsimp only at hSw); go_simp; try with_reducible rfl)
  case hq2a => exact fun _ _ _ h => h
  try simp only [Act.put, List.setIfInBounds_toArray, List.set_cons_zero, List.set_cons_succ]
  refine wpAnyH_take (i := 3) (oi := ?oi3a) (v := ?v3a) ?hi3a (by kernel_rfl) (by kernel_rfl) (by kernel_rfl) ?hq3a ?hy3a (by assumption) ?rest3a
  case hi3a => (simp only [List.getElem?_toArray, List.getElem?_cons_zero, List.getElem?_cons_succ]; rfl)
  case hy3a => (refine Or.inl ⟨by rfl, ?_⟩; intro w hSw; (try dsimp only at hSw); go_simp; try with_reducible rfl)
  case hq3a => exact fun _ _ _ h => h
  try simp only [Act.put, List.setIfInBounds_toArray, List.set_cons_zero, List.set_cons_succ]
  refine wpAnyH_take (i := 5) (oi := ?oi5a) (v := ?v5a) ?hi5a (by kernel_rfl) (by kernel_rfl) (by kernel_rfl) ?hq5a ?hy5a (by assumption) ?rest5a
  case hi5a => (simp only [List.getElem?_toArray, List.getElem?_cons_zero, List.getElem?_cons_succ]; rfl)
  case hy5a => (refine Or.inl ⟨by rfl, ?_⟩; intro w hSw; (try dsimp only at hSw); go_simp; try with_reducible rfl)
  case hq5a => exact fun _ _ _ h => h
  try simp only [Act.put, List.setIfInBounds_toArray, List.set_cons_zero, List.set_cons_succ]
  refine wpAnyH_ready (rs := [4, 6]) (by kernel_rfl) (by simp) ?_
  refine AllReadyH.cons (o := ?o4q1) ?ho4q1 (fun K hK => ?st4q1) ?mo4q1
  case ho4q1 => (simp only [List.getElem?_toArray, List.getElem?_cons_zero, List.getElem?_cons_succ]; rfl)
  · skip
    have hc5 := HTC.out (wd) (Below.refl _ _)
    go_simp
    refine hK.out _ _ trivial (fun _ => ?_)
    clear hc5
    clear hK K
    try simp only [Act.put, List.setIfInBounds_toArray, List.set_cons_zero, List.set_cons_succ]
    refine wpAnyH_ready (rs := [6]) (by kernel_rfl) (by simp) ?_
    refine AllReadyH.cons (o := ?o6q2) ?ho6q2 (fun K hK => ?st6q2) ?mo6q2
    case ho6q2 => (simp only [List.getElem?_toArray, List.getElem?_cons_zero, List.getElem?_cons_succ]; rfl)
    · skip
      go_simp
      refine HCP.out.mono ?_
      rintro _ wg ⟨gg, rfl, hgg, hBg, hbg⟩
      have HGG := Lib.hid (And.intro hgg (And.intro hBg hbg))
      have HBG1 := Lib.hid hbg
      have HBG2 := Lib.hid fun o => hbg.trans ((one_box' wg o).mono hbg.size)
      clear hgg hBg hbg
      go_simp
      refine hK.out _ _ trivial (fun _ => ?_)
      clear hK K
      try simp only [Act.put, List.setIfInBounds_toArray, List.set_cons_zero, List.set_cons_succ]
      refine wpAnyH_ready (rs := [7]) (by kernel_rfl) (by simp) ?_
      refine AllReadyH.cons (o := ?o7q3) ?ho7q3 (fun K hK => ?st7q3) ?mo7q3
      case ho7q3 => (simp only [List.getElem?_toArray, List.getElem?_cons_zero, List.getElem?_cons_succ]; rfl)
      · skip
        go_simp
        refine hK.out _ _ trivial (fun _ => ?_)
        clear hK K
        try simp only [Act.put, List.setIfInBounds_toArray, List.set_cons_zero, List.set_cons_succ]
        refine wpAnyH_ready (rs := [8]) (by kernel_rfl) (by simp) ?_
        refine AllReadyH.cons (o := ?o8q4) ?ho8q4 (fun K hK => ?st8q4) ?mo8q4
        case ho8q4 => (simp only [List.getElem?_toArray, List.getElem?_cons_zero, List.getElem?_cons_succ]; rfl)
        · skip
          have hog := (HHD.out.over HBG1.out).was
          rw [HVW.out] at hog
          have HOG2 := Lib.hid hog
          clear hog
          refine step_appN wg (by rfl) _ _ 78 (by rfl) B 22 i0 _ 1 24 u_ils hi0 hz0 hz1 hz2 rfl (by decide) (.slice AW KL.length cW) KL.length (KL.map Gt.wv) (by rfl) HOG2.out #[.slice (some ⟨gg, 0, none⟩) l.length l.length] rfl (by rfl) (by simp; rfl) (by simp only [maxLen]; omega) (by omega) (Nat.le_trans hBd HBG1.out.size) ?_
          intro u6 w6 ho6 _ hg6 hat6
          have hOn : wg.ownsRow B 3 1 (.slice (some ⟨gg, 0, none⟩) l.length l.length) l.length (ivs l) := own_base (rg_own (by simp only [maxLen]; omega) HGG.out.2.1) (Nat.le_trans hBd HGG.out.1)
          have hfl := HHD.out.full (w0 := w) (.inr trivial) HH.out.gg HH.out.rg HH.out.nFe HN.out.nF HN.out.r HN.out.g ⟨HGG.out.1, fun k hk => Nat.lt_of_lt_of_le (HFD.out k hk) HGG.out.1⟩ HBG1.out hOn ho6 (by rw [HVW.out]; exact Chg.of_grown hg6) (by
            rw [HVW.out]
            exact fun g hg => hat6.elim (fun e => .inl (e ▸ hg)) (fun e => .inr (by rw [e] at hg; injection hg with hg; omega))) HFD.out
          obtain ⟨q6, d6, hh6, hc6, hk6⟩ := hfl
          rw [HVW.out] at d6
          obtain ⟨A7, c7, rfl, _, _⟩ := own_shape ho6
          have HH6 := Lib.hid hh6
          have HC6 := Lib.hid (HCD.out.thenS hc6 fun _ _ e => e)
          have HK6 := Lib.hid fun (g t : Nat) (cs : Array Value) (hB : Blk w g t cs) (ht : t ≠ 22) (hg : g ≠ H) => hk6 g t cs (HKD.out g t cs hB ht hg) ht hg
          clear ho6 hg6 hat6 hh6 hc6 hOn hk6
          refine hK.out _ _ trivial (fun _ => ?_)
          clear hK K
          try simp only [Act.put, List.setIfInBounds_toArray, List.set_cons_zero, List.set_cons_succ]
          refine wpAnyH_take (i := 9) (oi := ?oi9q4) (v := ?v9q4) ?hi9q4 (by kernel_rfl) (by kernel_rfl) (by kernel_rfl) ?hq9q4 ?hy9q4 (by assumption) ?rest9q4
          case hi9q4 => (simp only [List.getElem?_toArray, List.getElem?_cons_zero, List.getElem?_cons_succ]; rfl)
          case hy9q4 => (refine Or.inl ⟨by rfl, ?_⟩; intro w hSw; (try dsimp only at hSw); go_simp; try with_reducible rfl)
          case hq9q4 => exact fun _ _ _ h => h
          try simp only [Act.put, List.setIfInBounds_toArray, List.set_cons_zero, List.set_cons_succ]
          refine wpAnyH_take (i := 10) (oi := ?oi10q4) (v := ?v10q4) ?hi10q4 (by kernel_rfl) (by kernel_rfl) (by kernel_rfl) ?hq10q4 ?hy10q4 (by assumption) ?rest10q4
          case hi10q4 => (simp only [List.getElem?_toArray, List.getElem?_cons_zero, List.getElem?_cons_succ]; rfl)
          case hy10q4 => (refine Or.inl ⟨by rfl, ?_⟩; intro w hSw; (try dsimp only at hSw); go_simp; try with_reducible rfl)
          case hq10q4 => exact fun _ _ _ h => h
          try simp only [Act.put, List.setIfInBounds_toArray, List.set_cons_zero, List.set_cons_succ]
          refine wpAnyH_ready (rs := [11]) (by kernel_rfl) (by simp) ?_
          refine AllReadyH.cons (o := ?o11q4) ?ho11q4 (fun K hK => ?st11q4) ?mo11q4
          case ho11q4 => (simp only [List.getElem?_toArray, List.getElem?_cons_zero, List.getElem?_cons_succ]; rfl)
          · skip
            go_simp
            refine hK.out _ _ trivial (fun _ => ?_)
            clear hK K
            refine wpAnyH_done (by kernel_rfl) ?_ _
            go_wp2
            go_end0
            exact ⟨rfl, _, _, gg, HH6.out, HC6.out, HK6.out⟩
          exact AllReadyH.nil
        exact AllReadyH.nil
      exact AllReadyH.nil
    exact AllReadyH.nil
  refine AllReadyH.cons (o := ?o6q5) ?ho6q5 (fun K hK => ?st6q5) ?mo6q5
  case ho6q5 => (simp only [List.getElem?_toArray, List.getElem?_cons_zero, List.getElem?_cons_succ]; rfl)
  · skip
    go_simp
    refine HCP.out.mono ?_
    rintro _ wg ⟨gg, rfl, hgg, hBg, hbg⟩
    have HGG := Lib.hid (And.intro hgg (And.intro hBg hbg))
    have HBG1 := Lib.hid hbg
    have HBG2 := Lib.hid fun o => hbg.trans ((one_box' wg o).mono hbg.size)
    clear hgg hBg hbg
    go_simp
    refine hK.out _ _ trivial (fun _ => ?_)
    clear hK K
    try simp only [Act.put, List.setIfInBounds_toArray, List.set_cons_zero, List.set_cons_succ]
    refine wpAnyH_ready (rs := [4, 7]) (by kernel_rfl) (by simp) ?_
    refine AllReadyH.cons (o := ?o4q6) ?ho4q6 (fun K hK => ?st4q6) ?mo4q6
    case ho4q6 => (simp only [List.getElem?_toArray, List.getElem?_cons_zero, List.getElem?_cons_succ]; rfl)
    · skip
      have hc5 := HTC.out (wg) HBG1.out
      go_simp
      refine hK.out _ _ trivial (fun _ => ?_)
      clear hc5
      clear hK K
      try simp only [Act.put, List.setIfInBounds_toArray, List.set_cons_zero, List.set_cons_succ]
      refine wpAnyH_ready (rs := [7]) (by kernel_rfl) (by simp) ?_
      refine AllReadyH.cons (o := ?o7q7) ?ho7q7 (fun K hK => ?st7q7) ?mo7q7
      case ho7q7 => (simp only [List.getElem?_toArray, List.getElem?_cons_zero, List.getElem?_cons_succ]; rfl)
      · skip
        go_simp
        refine hK.out _ _ trivial (fun _ => ?_)
        clear hK K
        try simp only [Act.put, List.setIfInBounds_toArray, List.set_cons_zero, List.set_cons_succ]
        refine wpAnyH_ready (rs := [8]) (by kernel_rfl) (by simp) ?_
        refine AllReadyH.cons (o := ?o8q8) ?ho8q8 (fun K hK => ?st8q8) ?mo8q8
        case ho8q8 => (simp only [List.getElem?_toArray, List.getElem?_cons_zero, List.getElem?_cons_succ]; rfl)
        · skip
          have hog := (HHD.out.over HBG1.out).was
          rw [HVW.out] at hog
          have HOG2 := Lib.hid hog
          clear hog
          refine step_appN wg (by rfl) _ _ 78 (by rfl) B 22 i0 _ 1 24 u_ils hi0 hz0 hz1 hz2 rfl (by decide) (.slice AW KL.length cW) KL.length (KL.map Gt.wv) (by rfl) HOG2.out #[.slice (some ⟨gg, 0, none⟩) l.length l.length] rfl (by rfl) (by simp; rfl) (by simp only [maxLen]; omega) (by omega) (Nat.le_trans hBd HBG1.out.size) ?_
          intro u6 w6 ho6 _ hg6 hat6
          have hOn : wg.ownsRow B 3 1 (.slice (some ⟨gg, 0, none⟩) l.length l.length) l.length (ivs l) := own_base (rg_own (by simp only [maxLen]; omega) HGG.out.2.1) (Nat.le_trans hBd HGG.out.1)
          have hfl := HHD.out.full (w0 := w) (.inr trivial) HH.out.gg HH.out.rg HH.out.nFe HN.out.nF HN.out.r HN.out.g ⟨HGG.out.1, fun k hk => Nat.lt_of_lt_of_le (HFD.out k hk) HGG.out.1⟩ HBG1.out hOn ho6 (by rw [HVW.out]; exact Chg.of_grown hg6) (by
            rw [HVW.out]
            exact fun g hg => hat6.elim (fun e => .inl (e ▸ hg)) (fun e => .inr (by rw [e] at hg; injection hg with hg; omega))) HFD.out
          obtain ⟨q6, d6, hh6, hc6, hk6⟩ := hfl
          rw [HVW.out] at d6
          obtain ⟨A7, c7, rfl, _, _⟩ := own_shape ho6
          have HH6 := Lib.hid hh6
          have HC6 := Lib.hid (HCD.out.thenS hc6 fun _ _ e => e)
          have HK6 := Lib.hid fun (g t : Nat) (cs : Array Value) (hB : Blk w g t cs) (ht : t ≠ 22) (hg : g ≠ H) => hk6 g t cs (HKD.out g t cs hB ht hg) ht hg
          clear ho6 hg6 hat6 hh6 hc6 hOn hk6
          refine hK.out _ _ trivial (fun _ => ?_)
          clear hK K
          try simp only [Act.put, List.setIfInBounds_toArray, List.set_cons_zero, List.set_cons_succ]
          refine wpAnyH_take (i := 9) (oi := ?oi9q8) (v := ?v9q8) ?hi9q8 (by kernel_rfl) (by kernel_rfl) (by kernel_rfl) ?hq9q8 ?hy9q8 (by assumption) ?rest9q8
          case hi9q8 => (simp only [List.getElem?_toArray, List.getElem?_cons_zero, List.getElem?_cons_succ]; rfl)
          case hy9q8 => (refine Or.inl ⟨by rfl, ?_⟩; intro w hSw; (try dsimp only at hSw); go_simp; try with_reducible rfl)
          case hq9q8 => exact fun _ _ _ h => h
          try simp only [Act.put, List.setIfInBounds_toArray, List.set_cons_zero, List.set_cons_succ]
          refine wpAnyH_take (i := 10) (oi := ?oi10q8) (v := ?v10q8) ?hi10q8 (by kernel_rfl) (by kernel_rfl) (by kernel_rfl) ?hq10q8 ?hy10q8 (by assumption) ?rest10q8
          case hi10q8 => (simp only [List.getElem?_toArray, List.getElem?_cons_zero, List.getElem?_cons_succ]; rfl)
          case hy10q8 => (refine Or.inl ⟨by rfl, ?_⟩; intro w hSw; (try dsimp only at hSw); go_simp; try with_reducible rfl)
          case hq10q8 => exact fun _ _ _ h => h
          try simp only [Act.put, List.setIfInBounds_toArray, List.set_cons_zero, List.set_cons_succ]
          refine wpAnyH_ready (rs := [11]) (by kernel_rfl) (by simp) ?_
          refine AllReadyH.cons (o := ?o11q8) ?ho11q8 (fun K hK => ?st11q8) ?mo11q8
          case ho11q8 => (simp only [List.getElem?_toArray, List.getElem?_cons_zero, List.getElem?_cons_succ]; rfl)
          · skip
            go_simp
            refine hK.out _ _ trivial (fun _ => ?_)
            clear hK K
            refine wpAnyH_done (by kernel_rfl) ?_ _
            go_wp2
            go_end0
            exact ⟨rfl, _, _, gg, HH6.out, HC6.out, HK6.out⟩
          exact AllReadyH.nil
        exact AllReadyH.nil
      exact AllReadyH.nil
    refine AllReadyH.cons (o := ?o7q9) ?ho7q9 (fun K hK => ?st7q9) ?mo7q9
    case ho7q9 => (simp only [List.getElem?_toArray, List.getElem?_cons_zero, List.getElem?_cons_succ]; rfl)
    · skip
      go_simp
      refine hK.out _ _ trivial (fun _ => ?_)
      clear hK K
      try simp only [Act.put, List.setIfInBounds_toArray, List.set_cons_zero, List.set_cons_succ]
      refine wpAnyH_ready (rs := [4]) (by kernel_rfl) (by simp) ?_
      refine AllReadyH.cons (o := ?o4q10) ?ho4q10 (fun K hK => ?st4q10) ?mo4q10
      case ho4q10 => (simp only [List.getElem?_toArray, List.getElem?_cons_zero, List.getElem?_cons_succ]; rfl)
      · skip
        have hc5 := HTC.out (wg.alloc (.cells #[.slice (some ⟨gg, 0, none⟩) l.length l.length] 22)) (HBG2.out _)
        go_simp
        refine hK.out _ _ trivial (fun _ => ?_)
        clear hc5
        clear hK K
        try simp only [Act.put, List.setIfInBounds_toArray, List.set_cons_zero, List.set_cons_succ]
        refine wpAnyH_ready (rs := [8]) (by kernel_rfl) (by simp) ?_
        refine AllReadyH.cons (o := ?o8q11) ?ho8q11 (fun K hK => ?st8q11) ?mo8q11
        case ho8q11 => (simp only [List.getElem?_toArray, List.getElem?_cons_zero, List.getElem?_cons_succ]; rfl)
        · skip
          have hog := (HHD.out.over HBG1.out).was
          rw [HVW.out] at hog
          have HOG2 := Lib.hid hog
          clear hog
          refine step_appN wg (by rfl) _ _ 78 (by rfl) B 22 i0 _ 1 24 u_ils hi0 hz0 hz1 hz2 rfl (by decide) (.slice AW KL.length cW) KL.length (KL.map Gt.wv) (by rfl) HOG2.out #[.slice (some ⟨gg, 0, none⟩) l.length l.length] rfl (by rfl) (by simp; rfl) (by simp only [maxLen]; omega) (by omega) (Nat.le_trans hBd HBG1.out.size) ?_
          intro u6 w6 ho6 _ hg6 hat6
          have hOn : wg.ownsRow B 3 1 (.slice (some ⟨gg, 0, none⟩) l.length l.length) l.length (ivs l) := own_base (rg_own (by simp only [maxLen]; omega) HGG.out.2.1) (Nat.le_trans hBd HGG.out.1)
          have hfl := HHD.out.full (w0 := w) (.inr trivial) HH.out.gg HH.out.rg HH.out.nFe HN.out.nF HN.out.r HN.out.g ⟨HGG.out.1, fun k hk => Nat.lt_of_lt_of_le (HFD.out k hk) HGG.out.1⟩ HBG1.out hOn ho6 (by rw [HVW.out]; exact Chg.of_grown hg6) (by
            rw [HVW.out]
            exact fun g hg => hat6.elim (fun e => .inl (e ▸ hg)) (fun e => .inr (by rw [e] at hg; injection hg with hg; omega))) HFD.out
          obtain ⟨q6, d6, hh6, hc6, hk6⟩ := hfl
          rw [HVW.out] at d6
          obtain ⟨A7, c7, rfl, _, _⟩ := own_shape ho6
          have HH6 := Lib.hid hh6
          have HC6 := Lib.hid (HCD.out.thenS hc6 fun _ _ e => e)
          have HK6 := Lib.hid fun (g t : Nat) (cs : Array Value) (hB : Blk w g t cs) (ht : t ≠ 22) (hg : g ≠ H) => hk6 g t cs (HKD.out g t cs hB ht hg) ht hg
          clear ho6 hg6 hat6 hh6 hc6 hOn hk6
          refine hK.out _ _ trivial (fun _ => ?_)
          clear hK K
          try simp only [Act.put, List.setIfInBounds_toArray, List.set_cons_zero, List.set_cons_succ]
          refine wpAnyH_take (i := 9) (oi := ?oi9q11) (v := ?v9q11) ?hi9q11 (by kernel_rfl) (by kernel_rfl) (by kernel_rfl) ?hq9q11 ?hy9q11 (by assumption) ?rest9q11
          case hi9q11 => (simp only [List.getElem?_toArray, List.getElem?_cons_zero, List.getElem?_cons_succ]; rfl)
          case hy9q11 => (refine Or.inl ⟨by rfl, ?_⟩; intro w hSw; (try dsimp only at hSw); go_simp; try with_reducible rfl)
          case hq9q11 => exact fun _ _ _ h => h
          try simp only [Act.put, List.setIfInBounds_toArray, List.set_cons_zero, List.set_cons_succ]
          refine wpAnyH_take (i := 10) (oi := ?oi10q11) (v := ?v10q11) ?hi10q11 (by kernel_rfl) (by kernel_rfl) (by kernel_rfl) ?hq10q11 ?hy10q11 (by assumption) ?rest10q11
          case hi10q11 => (simp only [List.getElem?_toArray, List.getElem?_cons_zero, List.getElem?_cons_succ]; rfl)
          case hy10q11 => (refine Or.inl ⟨by rfl, ?_⟩; intro w hSw; (try dsimp only at hSw); go_simp; try with_reducible rfl)
          case hq10q11 => exact fun _ _ _ h => h
          try simp only [Act.put, List.setIfInBounds_toArray, List.set_cons_zero, List.set_cons_succ]
          refine wpAnyH_ready (rs := [11]) (by kernel_rfl) (by simp) ?_
          refine AllReadyH.cons (o := ?o11q11) ?ho11q11 (fun K hK => ?st11q11) ?mo11q11
          case ho11q11 => (simp only [List.getElem?_toArray, List.getElem?_cons_zero, List.getElem?_cons_succ]; rfl)
          · skip
            go_simp
            refine hK.out _ _ trivial (fun _ => ?_)
            clear hK K
            refine wpAnyH_done (by kernel_rfl) ?_ _
            go_wp2
            go_end0
            exact ⟨rfl, _, _, gg, HH6.out, HC6.out, HK6.out⟩
          exact AllReadyH.nil
        exact AllReadyH.nil
      exact AllReadyH.nil
    exact AllReadyH.nil
  exact AllReadyH.nil
end
end Go.Proofs.Ytfjpmoigpnmeoaa
