/-
  The document's Read: what it keeps.
-/
import Derived.Test.YtpkdalpjfcopbaaDoorLNext
namespace Go.Proofs.YtpkdalpjfcopbaaDoor
open Go.RowKit
theorem head_iff {l : List UInt8} (h : 18 ≤ l.length) : headB (numB (part l 2 8)) (numB (part l 10 4)) = l.take 18 ↔ (part l 0 2 = [113, 106] ∧ numB (part l 14 4) = Crc.crc (part l 0 14)) := by
  have e14 : part l 0 14 = part l 0 2 ++ (part l 2 8 ++ part l 10 4) := by
    rw [show (14 : Nat) = 2 + (8 + 4) from rfl, part_split, part_split]
  have e18 : l.take 18 = part l 0 2 ++ (part l 2 8 ++ part l 10 4) ++ part l 14 4 := by
    have : l.take 18 = part l 0 18 := by simp [part]
    rw [this, show (18 : Nat) = 14 + 4 from rfl, part_split, e14]
  have eh : hdr (numB (part l 2 8)) (numB (part l 10 4)) = [113, 106] ++ (part l 2 8 ++ part l 10 4) := by
    rw [hdr, beN_part (by omega), beN_part (by omega), List.append_assoc]
  have hl4 : (part l 14 4).length = 4 := part_length (by omega)
  have hl2 : (part l 0 2).length = 2 := part_length (by omega)
  rw [headB, eh, e18, e14]
  constructor
  · intro e
    have e1 := List.append_inj e (by simp [hl2] <;> omega)
    have e2 := List.append_inj e1.1 (by simp [hl2])
    refine ⟨e2.1.symm, ?_⟩
    have e5 := e1.2
    rw [e2.1] at e5
    exact (beN_inj hl4 (Crc.crc_lt _)).1 e5
  · rintro ⟨e3, e5⟩
    rw [e3] at e5 ⊢
    congr 1
    exact (beN_inj hl4 (Crc.crc_lt _)).2 e5
/-- What Read hands out, cell by cell. -/
structure RV where
  gn : Int
  ct : Int
  fn : Int
  A : Option Addr
  m : Nat
  c : Nat
  so : Bool
  cl : Bool
def RV.cells (r : RV) : Array Value := #[.int .i64 r.gn, .int .i64 r.ct, .int .i64 r.fn, .slice r.A r.m r.c, .bool r.so, .bool r.cl]
def RV.val (r : RV) : Value := .agg #[.int .i64 r.gn, .int .i64 r.ct, .int .i64 r.fn, .slice r.A r.m r.c, .bool r.so, .bool r.cl]
def RV.zero : RV := ⟨0, 0, 0, none, 0, 0, false, false⟩
def RdV (w : World) (base : Nat) (bs : List UInt8) (r : RV) : Prop :=
  match readR bs with
  | none => r = RV.zero
  | some f => r.gn = (f.gen : Int) ∧ r.ct = (f.count : Int) ∧ r.fn = (f.fin : Int) ∧ r.so = f.sound ∧ r.cl = decide (f.fin = bs.length) ∧ ∃ K, K.map Rk.rc = f.recs ∧ r.m = K.length ∧ RcOwn w base (.slice r.A r.m r.c) K
section
variable {w w' wx : World} {base base' : Nat} {bs : List UInt8} {r : RV} {S : Nat → Prop}
theorem RdV.chgT (h : RdV w base bs r) (hc : Chg S w w') (hS : ∀ g, base ≤ g → (IsT w 34 g ∨ IsT w 5 g) → ¬ S g) : RdV w' base bs r := by
  unfold RdV at h ⊢
  split
  · rename_i e
    rw [e] at h
    exact h
  · rename_i f e
    rw [e] at h
    obtain ⟨h1, h2, h3, h4, h5, K, h6, h7, h8⟩ := h
    exact ⟨h1, h2, h3, h4, h5, K, h6, h7, h8.chgT hc hS⟩
theorem RdV.below (h : RdV w base bs r) (hb : Below w.heap.size w w') : RdV w' base bs r := h.chgT (Chg.of_below hb (fun _ => False)) fun _ _ _ h => h
theorem RdV.mono (h : RdV w base bs r) (hb : base' ≤ base) : RdV w base' bs r := by
  unfold RdV at h ⊢
  split
  · rename_i e
    rw [e] at h
    exact h
  · rename_i f e
    rw [e] at h
    obtain ⟨h1, h2, h3, h4, h5, K, h6, h7, h8⟩ := h
    exact ⟨h1, h2, h3, h4, h5, K, h6, h7, h8.mono hb⟩
theorem RdV.snd (h : RdV w base bs r) : (r.so = true → ∃ x, soundR bs = some x ∧ r.gn = (x.gen : Int) ∧ readR bs = some x) ∧ (r.so = false → soundR bs = none) := by
  unfold RdV at h
  unfold soundR
  cases hx : readR bs with
  | none =>
    rw [hx] at h
    subst h
    exact ⟨fun h => (by cases h), fun _ => rfl⟩
  | some x =>
    rw [hx] at h
    obtain ⟨h1, h2, h3, h4, _⟩ := h
    refine ⟨fun h => ⟨x, ?_, h1, rfl⟩, fun h => ?_⟩
    · rw [h4] at h
      simp [Option.filter, h]
    · rw [h4] at h
      simp [Option.filter, h]
end
theorem rv_cells {w : World} {q : Nat} {r : RV} (h : Blk w q 82 r.cells) : (w.cell? ⟨q, 0, none⟩ = some (.int .i64 r.gn) ∧ w.cell? ⟨q, 1, none⟩ = some (.int .i64 r.ct) ∧ w.cell? ⟨q, 2, none⟩ = some (.int .i64 r.fn) ∧ w.cell? ⟨q, 3, none⟩ = some (.slice r.A r.m r.c) ∧ w.cell? ⟨q, 4, none⟩ = some (.bool r.so) ∧ w.cell? ⟨q, 5, none⟩ = some (.bool r.cl)) ∧
    (w.frozen? ⟨q, 0, none⟩ = false ∧ w.frozen? ⟨q, 1, none⟩ = false ∧ w.frozen? ⟨q, 2, none⟩ = false ∧ w.frozen? ⟨q, 3, none⟩ = false ∧ w.frozen? ⟨q, 4, none⟩ = false ∧ w.frozen? ⟨q, 5, none⟩ = false) :=
  ⟨⟨h.cell 0, h.cell 1, h.cell 2, h.cell 3, h.cell 4, h.cell 5⟩, h.frozen 0, h.frozen 1, h.frozen 2, h.frozen 3, h.frozen 4, h.frozen 5⟩
def six (w : World) (q : Nat) (r : RV) : World := (((((w.setCell ⟨q, 0, none⟩ (.int .i64 r.gn)).setCell ⟨q, 1, none⟩ (.int .i64 r.ct)).setCell ⟨q, 2, none⟩ (.int .i64 r.fn)).setCell ⟨q, 3, none⟩ (.slice r.A r.m r.c)).setCell ⟨q, 4, none⟩ (.bool r.so)).setCell ⟨q, 5, none⟩ (.bool r.cl)
theorem six_blk {w : World} {q t : Nat} {r0 : RV} (h : Blk w q t r0.cells) (r : RV) : Blk (six w q r) q t r.cells ∧ Chg (fun k => k = q) w (six w q r) := by
  have h0 := h.set_ 0 (.int .i64 r.gn)
  have h1 := h0.set_ 1 (.int .i64 r.ct)
  have h2 := h1.set_ 2 (.int .i64 r.fn)
  have h3 := h2.set_ 3 (.slice r.A r.m r.c)
  have h4 := h3.set_ 4 (.bool r.so)
  have h5 := h4.set_ 5 (.bool r.cl)
  unfold RV.cells at h5
  simp only [List.setIfInBounds_toArray, List.set_cons_zero, List.set_cons_succ] at h5
  have c0 := (Chg.refl (fun k => k = q) w).setCell (p := ⟨q, 0, none⟩) (.inl rfl) (.int .i64 r.gn)
  have c1 := c0.setCell (p := ⟨q, 1, none⟩) (.inl rfl) (.int .i64 r.ct)
  have c2 := c1.setCell (p := ⟨q, 2, none⟩) (.inl rfl) (.int .i64 r.fn)
  have c3 := c2.setCell (p := ⟨q, 3, none⟩) (.inl rfl) (.slice r.A r.m r.c)
  have c4 := c3.setCell (p := ⟨q, 4, none⟩) (.inl rfl) (.bool r.so)
  exact ⟨h5, c4.setCell (p := ⟨q, 5, none⟩) (.inl rfl) (.bool r.cl)⟩
theorem readResults (t2 : Nat) (tmps : Array Value) (w : World) (r : RV) (h2 : tmps.getD 2 undef = .pointer (some ⟨t2, 0, none⟩)) (hp : Blk w t2 82 r.cells) :
    (results Tryd.f44 tmps).run Tryd.prog w = .ok r.val w := by
  obtain ⟨⟨c0, c1, c2, c3, c4, c5⟩, _⟩ := rv_cells hp
  simp only [results]
  rw [show Tryd.f44.results = #[.cell 2 82] from rfl]
  rw [Array.getD_eq_getD_getElem?] at h2
  simp [h2, c0, c1, c2, c3, c4, c5, go_sem, RV.val]
/-- A Read under way. -/
structure RdS (w : World) (R Fb : Nat) (r : RV) (K : List Rk) (wr : World) : Prop where
  res : Blk wr R 82 RV.zero.cells
  fb : Blk wr Fb 82 r.cells
  own : RcOwn wr w.heap.size (.slice r.A r.m r.c) K
  len : r.m = K.length
  bw : Below w.heap.size w wr
  ge : w.heap.size ≤ R ∧ R < Fb
section
variable {w wr w' : World} {R Fb : Nat} {r r' : RV} {K : List Rk} {S : Nat → Prop}
theorem RdS.below (h : RdS w R Fb r K wr) (hb : Below wr.heap.size wr w') : RdS w R Fb r K w' := ⟨h.res.over hb, h.fb.over hb, h.own.below hb, h.len, h.bw.trans (hb.mono h.bw.size), h.ge⟩
/-- Another cell of it, the list apart. -/
theorem RdS.put (h : RdS w R Fb r K wr) (i : Nat) (u : Value) (hr : r.cells.setIfInBounds i u = r'.cells) (ha : r'.A = r.A ∧ r'.m = r.m ∧ r'.c = r.c) : RdS w R Fb r' K (wr.setCell ⟨Fb, i, none⟩ u) := by
  have hc : Chg (fun k => k = Fb) wr (wr.setCell ⟨Fb, i, none⟩ u) := (Chg.refl (fun k => k = Fb) wr).setCell (p := ⟨Fb, i, none⟩) (.inl rfl) _
  have hge := h.ge
  have h1 := h.fb.set_ i u
  rw [hr] at h1
  refine ⟨h.res.chg hc (by omega), h1, ?_, by rw [ha.2.1]; exact h.len, h.bw.trans (hc.to_below h.bw.size fun k e => by omega), hge⟩
  rw [ha.1, ha.2.1, ha.2.2]
  refine h.own.chgT hc fun k _ ht e => ?_
  subst e
  exact ht.elim (fun h' => absurd (h'.eq_ h.fb.isT) (by decide)) (fun h' => absurd (h'.eq_ h.fb.isT) (by decide))
/-- One record more. -/
theorem RdS.add {w2 : World} {A2 : Option Addr} {c2 : Nat} {x : Rk} (h : RdS w R Fb r K wr) (ho : w2.ownsRow w.heap.size 34 2 (.slice A2 (K.length + 1) c2) (K.length + 1) (rowsK K ++ x.cells)) (hg : wr.grownBy w2 (Value.slice r.A r.m r.c).ownBlock)
    (hx : wr.ownsRow w.heap.size 5 1 x.v x.rc.body.length (bvs x.rc.body)) (hn : ∀ (k : Nat) (r : Rk) (g : Nat), K[k]? = some r → r.v.ownBlock = some g → x.v.ownBlock = some g → False) :
    RdS w R Fb { r with A := A2, m := K.length + 1, c := c2 } (K ++ [x]) (w2.setCell ⟨Fb, 3, none⟩ (.slice A2 (K.length + 1) c2)) := by
  have hc := Chg.of_grown hg
  have hcs : Chg (fun k => k = Fb) w2 (w2.setCell ⟨Fb, 3, none⟩ (.slice A2 (K.length + 1) c2)) := (Chg.refl (fun k => k = Fb) w2).setCell (p := ⟨Fb, 3, none⟩) (.inl rfl) _
  have hge := h.ge
  have off : ∀ {t : Nat} {k : Nat}, IsT wr t k → t ≠ 34 → ¬ some k = (Value.slice r.A r.m r.c).ownBlock := fun ht hne e => hne (ht.eq_ (own_isT h.own.own e.symm))
  have hfb := h.fb.chg hc (off h.fb.isT (by decide))
  have hsn := h.own.snoc hc ho hx hn
  have ht2 : ∀ {t : Nat} {k : Nat}, IsT w2 t k → t ≠ 82 → ¬ k = Fb := fun ht hne e => by
    subst e
    exact hne (ht.eq_ hfb.isT)
  refine ⟨(h.res.chg hc (off h.res.isT (by decide))).chg hcs (by omega), hfb.set_ 3 _, hsn.chgT hcs fun k _ ht => ht.elim (fun h => ht2 h (by decide)) (fun h => ht2 h (by decide)), by simp, ?_, hge⟩
  exact (h.bw.trans (hc.to_below h.bw.size fun k e => (own_block_lt h.own.own e.symm).2.1)).trans (hcs.to_below (Nat.le_trans h.bw.size hc.size) fun k e => by omega)
end
end Go.Proofs.YtpkdalpjfcopbaaDoor
