/-
  The document's Read. And: The document's Read: what it keeps.
-/
import Derived.Test.YtpkdalpjfcopbaaDoorLNext
import Derived.Deep.CutBlock
namespace Go.Proofs.YtpkdalpjfcopbaaDoor
open Go.RowKit
theorem head_iff {l : List UInt8} (h : 18 ≤ l.length) : headB (numB (part l 2 8)) (numB (part l 10 4)) = l.take 18 ↔ (part l 0 2 = [113, 106] ∧ numB (part l 14 4) = Crc.crc (part l 0 14)) := by
  have e14 : part l 0 14 = part l 0 2 ++ (part l 2 8 ++ part l 10 4) := by
    rw [show (14 : Nat) = 2 + (8 + 4) from rfl, part_split, part_split]
  have e18 : l.take 18 = part l 0 2 ++ (part l 2 8 ++ part l 10 4) ++ part l 14 4 := by
    have : l.take 18 = part l 0 18 := by simp [part]
    rw [this, show (18 : Nat) = 14 + 4 from rfl, part_split, e14]
  have eh : hdr (numB (part l 2 8)) (numB (part l 10 4)) = [113, 106] ++ (part l 2 8 ++ part l 10 4) := by
    rw [hdr, beN_part (by omega), beN_part (by omega), List.append_assoc]
  have hl4 : (part l 14 4).length = 4 := part_length (by omega)
  have hl2 : (part l 0 2).length = 2 := part_length (by omega)
  rw [headB, eh, e18, e14]
  constructor
  · intro e
    have e1 := List.append_inj e (by simp [hl2] <;> omega)
    have e2 := List.append_inj e1.1 (by simp [hl2])
    refine ⟨e2.1.symm, ?_⟩
    have e5 := e1.2
    rw [e2.1] at e5
    exact (beN_inj hl4 (Crc.crc_lt _)).1 e5
  · rintro ⟨e3, e5⟩
    rw [e3] at e5 ⊢
    congr 1
    exact (beN_inj hl4 (Crc.crc_lt _)).2 e5
/-- What Read hands out, cell by cell. -/
structure RV where
  gn : Int
  ct : Int
  fn : Int
  A : Option Addr
  m : Nat
  c : Nat
  so : Bool
  cl : Bool
def RV.cells (r : RV) : Array Value := #[.int .i64 r.gn, .int .i64 r.ct, .int .i64 r.fn, .slice r.A r.m r.c, .bool r.so, .bool r.cl]
def RV.val (r : RV) : Value := .agg #[.int .i64 r.gn, .int .i64 r.ct, .int .i64 r.fn, .slice r.A r.m r.c, .bool r.so, .bool r.cl]
def RV.zero : RV := ⟨0, 0, 0, none, 0, 0, false, false⟩
def RdV (w : World) (base : Nat) (bs : List UInt8) (r : RV) : Prop :=
  match readR bs with
  | none => r = RV.zero
  | some f => r.gn = (f.gen : Int) ∧ r.ct = (f.count : Int) ∧ r.fn = (f.fin : Int) ∧ r.so = f.sound ∧ r.cl = decide (f.fin = bs.length) ∧ ∃ K, K.map Rk.rc = f.recs ∧ r.m = K.length ∧ RcOwn w base (.slice r.A r.m r.c) K
section
variable {w w' wx : World} {base base' : Nat} {bs : List UInt8} {r : RV} {S : Nat → Prop}
theorem RdV.chgT (h : RdV w base bs r) (hc : Chg S w w') (hS : ∀ g, base ≤ g → (IsT w 34 g ∨ IsT w 5 g) → ¬ S g) : RdV w' base bs r := by
  unfold RdV at h ⊢
  split
  · rename_i e
    rw [e] at h
    exact h
  · rename_i f e
    rw [e] at h
    obtain ⟨h1, h2, h3, h4, h5, K, h6, h7, h8⟩ := h
    exact ⟨h1, h2, h3, h4, h5, K, h6, h7, h8.chgT hc hS⟩
theorem RdV.below (h : RdV w base bs r) (hb : Below w.heap.size w w') : RdV w' base bs r := h.chgT (Chg.of_below hb (fun _ => False)) fun _ _ _ h => h
theorem RdV.mono (h : RdV w base bs r) (hb : base' ≤ base) : RdV w base' bs r := by
  unfold RdV at h ⊢
  split
  · rename_i e
    rw [e] at h
    exact h
  · rename_i f e
    rw [e] at h
    obtain ⟨h1, h2, h3, h4, h5, K, h6, h7, h8⟩ := h
    exact ⟨h1, h2, h3, h4, h5, K, h6, h7, h8.mono hb⟩
theorem RdV.snd (h : RdV w base bs r) : (r.so = true → ∃ x, soundR bs = some x ∧ r.gn = (x.gen : Int) ∧ readR bs = some x) ∧ (r.so = false → soundR bs = none) := by
  unfold RdV at h
  unfold soundR
  cases hx : readR bs with
  | none =>
    rw [hx] at h
    subst h
    exact ⟨fun h => (by cases h), fun _ => rfl⟩
  | some x =>
    rw [hx] at h
    obtain ⟨h1, h2, h3, h4, _⟩ := h
    refine ⟨fun h => ⟨x, ?_, h1, rfl⟩, fun h => ?_⟩
    · rw [h4] at h
      simp [Option.filter, h]
    · rw [h4] at h
      simp [Option.filter, h]
end
theorem rv_cells {w : World} {q : Nat} {r : RV} (h : Blk w q 82 r.cells) : (w.cell? ⟨q, 0, none⟩ = some (.int .i64 r.gn) ∧ w.cell? ⟨q, 1, none⟩ = some (.int .i64 r.ct) ∧ w.cell? ⟨q, 2, none⟩ = some (.int .i64 r.fn) ∧ w.cell? ⟨q, 3, none⟩ = some (.slice r.A r.m r.c) ∧ w.cell? ⟨q, 4, none⟩ = some (.bool r.so) ∧ w.cell? ⟨q, 5, none⟩ = some (.bool r.cl)) ∧
    (w.frozen? ⟨q, 0, none⟩ = false ∧ w.frozen? ⟨q, 1, none⟩ = false ∧ w.frozen? ⟨q, 2, none⟩ = false ∧ w.frozen? ⟨q, 3, none⟩ = false ∧ w.frozen? ⟨q, 4, none⟩ = false ∧ w.frozen? ⟨q, 5, none⟩ = false) :=
  ⟨⟨h.cell 0, h.cell 1, h.cell 2, h.cell 3, h.cell 4, h.cell 5⟩, h.frozen 0, h.frozen 1, h.frozen 2, h.frozen 3, h.frozen 4, h.frozen 5⟩
def six (w : World) (q : Nat) (r : RV) : World := (((((w.setCell ⟨q, 0, none⟩ (.int .i64 r.gn)).setCell ⟨q, 1, none⟩ (.int .i64 r.ct)).setCell ⟨q, 2, none⟩ (.int .i64 r.fn)).setCell ⟨q, 3, none⟩ (.slice r.A r.m r.c)).setCell ⟨q, 4, none⟩ (.bool r.so)).setCell ⟨q, 5, none⟩ (.bool r.cl)
theorem six_blk {w : World} {q t : Nat} {r0 : RV} (h : Blk w q t r0.cells) (r : RV) : Blk (six w q r) q t r.cells ∧ Chg (fun k => k = q) w (six w q r) := by
  have h0 := h.set_ 0 (.int .i64 r.gn)
  have h1 := h0.set_ 1 (.int .i64 r.ct)
  have h2 := h1.set_ 2 (.int .i64 r.fn)
  have h3 := h2.set_ 3 (.slice r.A r.m r.c)
  have h4 := h3.set_ 4 (.bool r.so)
  have h5 := h4.set_ 5 (.bool r.cl)
  unfold RV.cells at h5
  simp only [List.setIfInBounds_toArray, List.set_cons_zero, List.set_cons_succ] at h5
  have c0 := (Chg.refl (fun k => k = q) w).setCell (p := ⟨q, 0, none⟩) (.inl rfl) (.int .i64 r.gn)
  have c1 := c0.setCell (p := ⟨q, 1, none⟩) (.inl rfl) (.int .i64 r.ct)
  have c2 := c1.setCell (p := ⟨q, 2, none⟩) (.inl rfl) (.int .i64 r.fn)
  have c3 := c2.setCell (p := ⟨q, 3, none⟩) (.inl rfl) (.slice r.A r.m r.c)
  have c4 := c3.setCell (p := ⟨q, 4, none⟩) (.inl rfl) (.bool r.so)
  exact ⟨h5, c4.setCell (p := ⟨q, 5, none⟩) (.inl rfl) (.bool r.cl)⟩
theorem readResults (t2 : Nat) (tmps : Array Value) (w : World) (r : RV) (h2 : tmps.getD 2 undef = .pointer (some ⟨t2, 0, none⟩)) (hp : Blk w t2 82 r.cells) :
    (results Tryd.f44 tmps).run Tryd.prog w = .ok r.val w := by
  obtain ⟨⟨c0, c1, c2, c3, c4, c5⟩, _⟩ := rv_cells hp
  simp only [results]
  rw [show Tryd.f44.results = #[.cell 2 82] from rfl]
  rw [Array.getD_eq_getD_getElem?] at h2
  simp [h2, c0, c1, c2, c3, c4, c5, go_sem, RV.val]
/-- A Read under way. -/
structure RdS (w : World) (R Fb : Nat) (r : RV) (K : List Rk) (wr : World) : Prop where
  res : Blk wr R 82 RV.zero.cells
  fb : Blk wr Fb 82 r.cells
  own : RcOwn wr w.heap.size (.slice r.A r.m r.c) K
  len : r.m = K.length
  bw : Below w.heap.size w wr
  ge : w.heap.size ≤ R ∧ R < Fb
section
variable {w wr w' : World} {R Fb : Nat} {r r' : RV} {K : List Rk} {S : Nat → Prop}
theorem RdS.below (h : RdS w R Fb r K wr) (hb : Below wr.heap.size wr w') : RdS w R Fb r K w' := ⟨h.res.over hb, h.fb.over hb, h.own.below hb, h.len, h.bw.trans (hb.mono h.bw.size), h.ge⟩
/-- Another cell of it, the list apart. -/
theorem RdS.put (h : RdS w R Fb r K wr) (i : Nat) (u : Value) (hr : r.cells.setIfInBounds i u = r'.cells) (ha : r'.A = r.A ∧ r'.m = r.m ∧ r'.c = r.c) : RdS w R Fb r' K (wr.setCell ⟨Fb, i, none⟩ u) := by
  have hc : Chg (fun k => k = Fb) wr (wr.setCell ⟨Fb, i, none⟩ u) := (Chg.refl (fun k => k = Fb) wr).setCell (p := ⟨Fb, i, none⟩) (.inl rfl) _
  have hge := h.ge
  have h1 := h.fb.set_ i u
  rw [hr] at h1
  refine ⟨h.res.chg hc (by omega), h1, ?_, by rw [ha.2.1]; exact h.len, h.bw.trans (hc.to_below h.bw.size fun k e => by omega), hge⟩
  rw [ha.1, ha.2.1, ha.2.2]
  refine h.own.chgT hc fun k _ ht e => ?_
  subst e
  exact ht.elim (fun h' => absurd (h'.eq_ h.fb.isT) (by decide)) (fun h' => absurd (h'.eq_ h.fb.isT) (by decide))
/-- One record more. -/
theorem RdS.add {w2 : World} {A2 : Option Addr} {c2 : Nat} {x : Rk} (h : RdS w R Fb r K wr) (ho : w2.ownsRow w.heap.size 34 2 (.slice A2 (K.length + 1) c2) (K.length + 1) (rowsK K ++ x.cells)) (hg : wr.grownBy w2 (Value.slice r.A r.m r.c).ownBlock)
    (hx : wr.ownsRow w.heap.size 5 1 x.v x.rc.body.length (bvs x.rc.body)) (hn : ∀ (k : Nat) (r : Rk) (g : Nat), K[k]? = some r → r.v.ownBlock = some g → x.v.ownBlock = some g → False) :
    RdS w R Fb { r with A := A2, m := K.length + 1, c := c2 } (K ++ [x]) (w2.setCell ⟨Fb, 3, none⟩ (.slice A2 (K.length + 1) c2)) := by
  have hc := Chg.of_grown hg
  have hcs : Chg (fun k => k = Fb) w2 (w2.setCell ⟨Fb, 3, none⟩ (.slice A2 (K.length + 1) c2)) := (Chg.refl (fun k => k = Fb) w2).setCell (p := ⟨Fb, 3, none⟩) (.inl rfl) _
  have hge := h.ge
  have off : ∀ {t : Nat} {k : Nat}, IsT wr t k → t ≠ 34 → ¬ some k = (Value.slice r.A r.m r.c).ownBlock := fun ht hne e => hne (ht.eq_ (own_isT h.own.own e.symm))
  have hfb := h.fb.chg hc (off h.fb.isT (by decide))
  have hsn := h.own.snoc hc ho hx hn
  have ht2 : ∀ {t : Nat} {k : Nat}, IsT w2 t k → t ≠ 82 → ¬ k = Fb := fun ht hne e => by
    subst e
    exact hne (ht.eq_ hfb.isT)
  refine ⟨(h.res.chg hc (off h.res.isT (by decide))).chg hcs (by omega), hfb.set_ 3 _, hsn.chgT hcs fun k _ ht => ht.elim (fun h => ht2 h (by decide)) (fun h => ht2 h (by decide)), by simp, ?_, hge⟩
  exact (h.bw.trans (hc.to_below h.bw.size fun k e => (own_block_lt h.own.own e.symm).2.1)).trans (hcs.to_below (Nat.le_trans h.bw.size hc.size) fun k e => by omega)
end
end Go.Proofs.YtpkdalpjfcopbaaDoor
namespace Go.Proofs.YtpkdalpjfcopbaaDoor
open Go.RowKit
def ReadP (w : World) (bs : List UInt8) (e : Ending) (w' : World) : Prop := ∃ r : RV, e = .returned r.val ∧ RdV w' w.heap.size bs r ∧ Below w.heap.size w w'
theorem ReadP.none_ {w W : World} {R Fb : Nat} {r : RV} {K : List Rk} {bs : List UInt8} (h : RdS w R Fb r K W) (hx : headR bs = none) : Blk (six W R RV.zero) R 82 RV.zero.cells ∧ ReadP w bs (.returned RV.zero.val) (six W R RV.zero) := by
  obtain ⟨h1, hc⟩ := six_blk h.res RV.zero
  have hge := h.ge
  refine ⟨h1, RV.zero, rfl, ?_, h.bw.trans (hc.to_below h.bw.size fun k e => by omega)⟩
  unfold RdV readR
  rw [hx]
def endF (Fb : Nat) (w : World) : Nat := match w.cell? ⟨Fb, 2, none⟩ with
  | some v => (intOf v).toNat
  | none => 0
theorem endF_eq {w : World} {Fb p : Nat} (h : w.cell? ⟨Fb, 2, none⟩ = some (.int .i64 (p : Int))) : endF Fb w = p := by
  unfold endF
  rw [h]
  simp [intOf]
set_option maxRecDepth 100000 in
set_option maxHeartbeats 1600000 in
theorem Read_any {w : World} {n cap : Nat} {A : Option Addr} {bs : List UInt8} (hr : RdB w w.heap.size A n bs) (hn : n ≤ cap) (hc : cap ≤ 9223372036854775807) :
    Calls Tryd.prog 44 #[.slice A n cap] w (ReadP w bs) := by
  obtain ⟨w1, hw1⟩ : ∃ x, x = w.alloc (.cells #[.int .i64 0, .int .i64 0, .int .i64 0, .slice none 0 0, .bool false, .bool false] 82) := ⟨_, rfl⟩
  have hb1 : Below w.heap.size w w1 := by rw [hw1]; exact one_box' _ _
  have hB1 : Blk w1 w.heap.size 82 RV.zero.cells := by rw [hw1]; exact Blk.new _ _ _
  have hz1 : w1.heap.size = w.heap.size + 1 := by rw [hw1]; simp
  obtain ⟨w2, hw2⟩ : ∃ x, x = w1.alloc (.cells #[.int .i64 0, .int .i64 0, .int .i64 0, .slice none 0 0, .bool false, .bool false] 82) := ⟨_, rfl⟩
  have hb2 : Below w1.heap.size w1 w2 := by rw [hw2]; exact one_box' _ _
  have hB2 : Blk w2 w1.heap.size 82 RV.zero.cells := by rw [hw2]; exact Blk.new _ _ _
  obtain ⟨R, hR⟩ : ∃ R, R = w.heap.size := ⟨_, rfl⟩
  obtain ⟨Fb, hF⟩ : ∃ Fb, Fb = w1.heap.size := ⟨_, rfl⟩
  have HS2 : Hid (RdS w R Fb RV.zero [] w2) := Lib.hid ⟨by rw [hR]; exact hB1.over hb2, by rw [hF]; exact hB2, RcOwn.nil, rfl, Below.then hb1 hb2, by omega, by omega⟩
  have HW := Lib.hid (And.intro hw1 hw2)
  have HN := Lib.hid (And.intro hR hF)
  have HZ := Lib.hid hz1
  have hlt : R < Fb := by omega
  have HR := Lib.hid (hr.below (Below.then hb1 hb2))
  have HRB := Lib.hid hr
  have HL := Lib.hid hr.lenB
  have HWR : Hid (w.heap.size = R) := Lib.hid hR.symm
  clear hw1 hb1 hB1 hz1 hw2 hb2 hB2 hR hF hr
  obtain ⟨⟨x0, x1, x2, x3, x4, x5⟩, _⟩ := rv_cells HS2.out.res
  obtain ⟨_, ⟨f0, f1, f2, f3, f4, f5⟩⟩ := rv_cells HS2.out.res
  obtain ⟨⟨y0, y1, y2, y3, y4, y5⟩, ⟨g0, g1, g2, g3, g4, g5⟩⟩ := rv_cells HS2.out.fb
  dsimp only [RV.zero] at x0 x1 x2 x3 x4 x5 y0 y1 y2 y3 y4 y5
  by_cases hsz : 18 ≤ n ∧ n ≤ 65536
  · obtain ⟨h18, h65⟩ := hsz
    have d1 : decide ((n : Int) < 18) = false := decide_eq_false (by omega)
    have d2 : decide (65536 < (n : Int)) = false := decide_eq_false (by omega)
    obtain ⟨G, hG⟩ : ∃ G, G = numB (part bs 2 8) := ⟨_, rfl⟩
    obtain ⟨C, hC⟩ : ∃ C, C = numB (part bs 10 4) := ⟨_, rfl⟩
    have hC4 : C < 4294967296 := by
      have := numB_lt (part bs 10 4)
      rw [part_length (by have := HL.out; omega), ← hC] at this
      omega
    have hVC : valR C = (C : Int) := by unfold valR; rw [if_pos (by omega)]
    have HV1 : Hid (∀ W, RdB W w.heap.size A n bs → Calls Tryd.prog 67 #[.slice A n cap, .int .i64 2, .int .i64 10] W fun e w' => e = .returned (.int .i64 (valR G)) ∧ W = w') := Lib.hid fun W h => by
      rw [hG]
      exact value_any h (by omega) 2 8 (by omega)
    have HV2 : Hid (∀ W, RdB W w.heap.size A n bs → Calls Tryd.prog 67 #[.slice A n cap, .int .i64 10, .int .i64 14] W fun e w' => e = .returned (.int .i64 (C : Int)) ∧ W = w') := Lib.hid fun W h => by
      rw [← hVC, hC]
      exact value_any h (by omega) 10 4 (by omega)
    have HR3 : Hid (∀ i u, RdB (w2.setCell ⟨Fb, i, none⟩ u) w.heap.size A n bs) := Lib.hid fun i u => HR.out.keep fun g hg => ((Chg.refl (fun k => k = Fb) w2).setCell (p := ⟨Fb, i, none⟩) (.inl rfl) u).block g (by have := HS2.out.bw.size; omega) (by have := HWR.out; omega)
    have HGC := Lib.hid (And.intro hG hC)
    have HHR : Hid (headR bs = if n ≤ 65536 ∧ part bs 0 2 = [113, 106] ∧ 1 ≤ G ∧ G ≤ 4611686018427387904 ∧ numB (part bs 14 4) = Crc.crc (part bs 0 14) then some (G, C) else none) := Lib.hid (by
      unfold headR
      rw [HL.out, hG, hC]
      by_cases h : n ≤ 65536 ∧ part bs 0 2 = [113, 106] ∧ 1 ≤ numB (part bs 2 8) ∧ numB (part bs 2 8) ≤ 4611686018427387904 ∧ numB (part bs 14 4) = Crc.crc (part bs 0 14)
      · rw [if_pos h, if_pos ⟨h18, h⟩]
      · rw [if_neg h, if_neg (fun h' => h h'.2)])
    have HHI := Lib.hid (head_iff (l := bs) (by have := HL.out; omega))
    rw [← hG, ← hC] at HHI
    clear hG hC hVC
    by_cases hgen : 1 ≤ G ∧ G ≤ 4611686018427387904
    · have hVG : valR G = (G : Int) := by unfold valR; rw [if_pos hgen.2]
      rw [hVG] at HV1
      have dg : decide ((G : Int) < 1) = false := decide_eq_false (by omega)
      have HG := Lib.hid hgen
      clear hVG hgen
      go_enter Tryd.func44, Tryd.ntmps44
      go_upto_region 1 with fail
      rw [← HW.out.1, HWR.out]
      go_upto_region 2 with fail
      rw [← HW.out.2, ← HN.out.2]
      go_upto_region 5 with (go_at_call 67; refine (HV1.out _ HR.out).mono ?_; rintro _ w3 ⟨rfl, rfl⟩)
      have hS3 := HS2.out.put 0 (.int .i64 (G : Int)) (r' := { RV.zero with gn := (G : Int) }) rfl ⟨rfl, rfl, rfl⟩
      have hr3 := HR3.out 0 (.int .i64 (G : Int))
      clear x0 x1 x2 x3 x4 x5 y0 y1 y2 y3 y4 y5 f0 f1 f2 f3 f4 f5 g0 g1 g2 g3 g4 g5
      generalize w2.setCell ⟨Fb, 0, none⟩ (.int .i64 (G : Int)) = w3 at hS3 hr3 ⊢
      have HS3 := Lib.hid hS3
      have HRD3 := Lib.hid hr3
      clear hS3 hr3
      obtain ⟨⟨y0, y1, y2, y3, y4, y5⟩, ⟨g0, g1, g2, g3, g4, g5⟩⟩ := rv_cells HS3.out.fb
      dsimp only [RV.zero] at y0 y1 y2 y3 y4 y5
      go_upto_region 6 with (go_at_call 67; refine (HV2.out _ HRD3.out).mono ?_; rintro _ w4 ⟨rfl, rfl⟩)
      have hS4 := HS3.out.put 1 (.int .i64 (C : Int)) (r' := { RV.zero with gn := (G : Int), ct := (C : Int) }) rfl ⟨rfl, rfl, rfl⟩
      have hr4 : RdB (w3.setCell ⟨Fb, 1, none⟩ (.int .i64 (C : Int))) w.heap.size A n bs := HRD3.out.keep fun g hg => ((Chg.refl (fun k => k = Fb) w3).setCell (p := ⟨Fb, 1, none⟩) (.inl rfl) (.int .i64 (C : Int))).block g (by have := HS3.out.bw.size; omega) (by have := HWR.out; omega)
      clear y0 y1 y2 y3 y4 y5 g0 g1 g2 g3 g4 g5
      generalize w3.setCell ⟨Fb, 1, none⟩ (.int .i64 (C : Int)) = w4 at hS4 hr4 ⊢
      have HS4 := Lib.hid hS4
      have HRD4 := Lib.hid hr4
      clear hS4 hr4
      obtain ⟨⟨y0, y1, y2, y3, y4, y5⟩, ⟨g0, g1, g2, g3, g4, g5⟩⟩ := rv_cells HS4.out.fb
      dsimp only [RV.zero] at y0 y1 y2 y3 y4 y5
      go_upto_region 9 with (go_at_call 68; refine (Rhead_any G C (by have := HG.out; omega) (by omega)).mono ?_; rintro _ w5 ⟨A5, c5, rfl, ho5, hb5⟩; have H5 := Lib.hid (And.intro ho5 hb5); clear ho5 hb5)
      have hS5 := HS4.out.below H5.out.2
      have hr5 := HRD4.out.below (H5.out.2.mono HS4.out.bw.size)
      have hrt : RdB w5 w.heap.size A 18 (bs.take 18) := hr5.takeB (by omega)
      have hrh : RdB w5 w5.heap.size A5 18 (headB G C) := Rd.of_own H5.out.1
      have k1 := fun d c => conv_rd (P := Tryd.prog) (cap := c) (hrh.dn d) Tryd.underlying22 Tryd.underlying5 Tryd.underlying9
      have k2 := fun d c => conv_rd (P := Tryd.prog) (cap := c) (hrt.dn d) Tryd.underlying22 Tryd.underlying5 Tryd.underlying9
      have h18c : 18 ≤ cap := by omega
      have h18i : (18 : Int) ≤ (cap : Int) := by omega
      have HS5 := Lib.hid (And.intro hS5 hr5)
      clear hS5 hr5 hrt hrh y0 y1 y2 y3 y4 y5 g0 g1 g2 g3 g4 g5
      generalize hhd : headB G C = hd at k1
      generalize htk : bs.take 18 = tk at k2
      have HHT := Lib.hid (And.intro hhd htk)
      clear hhd htk
      by_cases he : hd = tk
      · have hs : (hd == tk) = true := by simpa using he
        have hgood := HHI.out.1 (by rw [HHT.out.1, HHT.out.2]; exact he)
        have hx : headR bs = some (G, C) := by rw [HHR.out, if_pos ⟨h65, hgood.1, HG.out.1, HG.out.2, hgood.2⟩]
        have HX := Lib.hid hx
        clear hgood hx he
        go_quiet (fail)
        have hS6 : RdS w R Fb { RV.zero with gn := (G : Int), ct := (C : Int) } [] (w5.drewN nq) := HS5.out.1.below (below_drewN (Below.refl _ _) nq)
        have hr6 : RdB (w5.drewN nq) w.heap.size A n bs := HS5.out.2.dn nq
        clear k1 k2 hs h18c h18i
        generalize w5.drewN nq = w6 at hS6 hr6 ⊢
        have HS6 := Lib.hid (And.intro hS6 hr6)
        clear hS6 hr6
        obtain ⟨⟨y0, y1, y2, y3, y4, y5⟩, ⟨g0, g1, g2, g3, g4, g5⟩⟩ := rv_cells HS6.out.1.fb
        dsimp only [RV.zero] at y0 y1 y2 y3 y4 y5
        go_upto_block 0 with fail
        have hput := HS6.out.1.put 2 (.int .i64 18) (r' := ⟨(G : Int), (C : Int), 18, none, 0, 0, false, false⟩) rfl ⟨rfl, rfl, rfl⟩
        have hRD : ∀ ms p, framesR bs bs.length 18 = (ms, p) → readR bs = some ⟨G, C, ms, p⟩ := fun ms p h => by
          unfold readR
          rw [HX.out]
          dsimp only
          rw [h]
        have HRD := Lib.hid hRD
        have HS7 : Hid (RdS w R Fb ⟨(G : Int), (C : Int), ((18 : Nat) : Int), none, ([] : List Rk).length, 0, false, false⟩ [] (w6.setCell ⟨Fb, 2, none⟩ (.int .i64 18)) ∧ Going bs (([] : List Rk).map Rk.rc) 18) := Lib.hid ⟨hput, Going.start (by have := HL.out; omega)⟩
        clear hput hRD y0 y1 y2 y3 y4 y5 g0 g1 g2 g3 g4 g5
        clear HS6 HS5 HS4 HRD4 HHT HHI
        generalize w6.setCell ⟨Fb, 2, none⟩ (.int .i64 18) = w7 at HS7 ⊢
        go_cut [5, 6] from 40 to 67 (fun _ _ wc => ∃ (Ks : List Rk) (p : Nat) (Ak : Option Addr) (ck : Nat), Hid (RdS w R Fb ⟨(G : Int), (C : Int), (p : Int), Ak, Ks.length, ck, false, false⟩ Ks wc ∧ readR bs = some ⟨G, C, Ks.map Rk.rc, p⟩))
        case first =>
          go_wp2_with fail
          go_loopw [5, 6] (fun _ _ wr => ∃ (Ks : List Rk) (p : Nat) (Ak : Option Addr) (ck : Nat), Hid (RdS w R Fb ⟨(G : Int), (C : Int), (p : Int), Ak, Ks.length, ck, false, false⟩ Ks wr ∧ Going bs (Ks.map Rk.rc) p)) (fun _ _ wr => n - endF Fb wr)
          case atStart => exact ⟨[], 18, none, 0, HS7⟩
          case round =>
            obtain ⟨Ks, p, Ak, ck, HZ⟩ := hrel
            obtain ⟨⟨y0, y1, y2, y3, y4, y5⟩, ⟨g0, g1, g2, g3, g4, g5⟩⟩ := rv_cells HZ.out.1.fb
            dsimp only at y0 y1 y2 y3 y4 y5
            have hpn := HZ.out.2.hi
            have hpl := HZ.out.2.lo
            rw [HL.out] at hpn
            have HEN := Lib.hid (endF_eq y2)
            have HRw := Lib.hid ((HRB.out.below HZ.out.1.bw).more HZ.out.1.bw.size)
            by_cases hlt : p < n
            · have hli : (p : Int) < (n : Int) := by omega
              cases hh : nextR bs p with
              | none =>
                have HX2 := Lib.hid hh
                clear hh
                go_upto_region 14 with (go_at_call 69; refine (Rnext_any HRw.out (by omega) (by omega) (by omega) (by omega)).mono ?_; rintro _ w3 ⟨hb3, hm⟩; rw [HX2.out] at hm; obtain rfl := hm; have HB3 := Lib.hid hb3; clear hb3)
                go_wp2_with fail
                go_meet
                exact ⟨Ks, p, Ak, ck, Lib.hid ⟨HZ.out.1.below (Below.then HB3.out (one_box' _ _)), HRD.out _ _ (HZ.out.2.stop (by have := HL.out; omega) HX2.out)⟩⟩
              | some r =>
                have HX2 := Lib.hid hh
                clear hh
                go_upto_region 15 with (go_at_call 69; refine (Rnext_any HRw.out (by omega) (by omega) (by omega) (by omega)).mono ?_; rintro _ w3 ⟨hb3, hm⟩; rw [HX2.out] at hm; obtain ⟨Ab, cb, rfl, ho3⟩ := hm; have HB3 := Lib.hid hb3; have HO3 := Lib.hid ho3; clear hb3 ho3)
                obtain ⟨w4, hw4⟩ : ∃ x, x = w3.alloc (.cells #[.int .i64 r.kind, .slice Ab r.body.length cb] 34) := ⟨_, rfl⟩
                rw [← hw4]
                have hb4 : Below w3.heap.size w3 w4 := by rw [hw4]; exact one_box' _ _
                have hR4 : Blk w4 w3.heap.size 34 #[.int .i64 r.kind, .slice Ab r.body.length cb] := by rw [hw4]; exact Blk.new _ _ _
                have hS4 := HZ.out.1.below (Below.then HB3.out hb4)
                have hov : w4.ownsRow w.heap.size 5 1 (.slice Ab r.body.length cb) r.body.length (bvs r.body) := own_base (own_chg HO3.out (Chg.of_below hb4 (fun _ => False)) fun _ _ e => e) HZ.out.1.bw.size
                have hnew : ∀ (k : Nat) (x : Rk) (q : Nat), Ks[k]? = some x → x.v.ownBlock = some q → (Value.slice Ab r.body.length cb).ownBlock = some q → False := fun k x q hk h1 h2 => by
                  have e1 := (own_block_lt (HZ.out.1.own.bod k x hk) h1).1
                  have e2 := (own_block_lt HO3.out h2).2.1
                  omega
                have hlast : ∀ g, some g = (Value.slice Ak Ks.length ck).ownBlock → g < wr.heap.size := fun g e => (own_block_lt HZ.out.1.own.own e.symm).1
                have h3s : wr.heap.size ≤ w3.heap.size := HB3.out.size
                have hFl : Fb < wr.heap.size := HZ.out.1.fb.lt
                have hKb : Ks.length ≤ 8192 := by
                  have h1 := HZ.out.2.bd (by have := HL.out; omega)
                  have h2 := bodies_le (Ks.map Rk.rc)
                  rw [List.length_map] at h2
                  omega
                have hgo : Going bs ((Ks ++ [(⟨r, .slice Ab r.body.length cb⟩ : Rk)]).map Rk.rc) (p + 8 + r.body.length) := by
                  rw [List.map_append]
                  exact HZ.out.2.step (by have := HL.out; omega) HX2.out
                have hqn := hgo.hi
                rw [HL.out] at hqn
                have HGO := Lib.hid hgo
                have HNW := Lib.hid hnew
                have HS4 := Lib.hid hS4
                have HOV := Lib.hid hov
                have HRB4 := Lib.hid hR4
                have HLT := Lib.hid hlast
                clear y0 y1 y2 y3 y4 y5 g0 g1 g2 g3 g4 g5 hw4 hb4
                obtain ⟨⟨y0, y1, y2, y3, y4, y5⟩, ⟨g0, g1, g2, g3, g4, g5⟩⟩ := rv_cells HS4.out.fb
                dsimp only at y0 y1 y2 y3 y4 y5
                have q0 : w4.cell? ⟨w3.heap.size, 0, none⟩ = some (.int .i64 r.kind) := hR4.cell 0
                have q1 : w4.cell? ⟨w3.heap.size, 1, none⟩ = some (.slice Ab r.body.length cb) := hR4.cell 1
                obtain ⟨i1, hi1, hr0, hr1, hr2⟩ := info_parts info_rec
                have hown : w4.ownsRow w.heap.size 34 2 (.slice Ak Ks.length ck) Ks.length (rowsK Ks) := HS4.out.own.own
                have HOW := Lib.hid hown
                clear hgo hnew hS4 hov hR4 hlast hown
                go_upto_region 16 with (
                  at_builtin
                  refine appN w4 (by rfl) _ _ 25 (by rfl) w.heap.size 34 i1 _ 2 32 u_recs hi1 hr0 hr1 hr2 rfl (by omega) _ Ks.length _ (by rfl) HOW.out #[.int .i64 r.kind, .slice Ab r.body.length cb] rfl (by rfl) (by simp; exact ⟨rfl, rfl⟩) (by simp only [maxLen]; omega) (by omega) HS4.out.bw.size ?_
                  intro v5 w5 how5 _ hg5
                  obtain ⟨A5', c5', rfl, _, _⟩ := own_shape how5
                  have hfb5 : Blk w5 Fb 82 _ := HS4.out.fb.chg (Chg.of_grown hg5) (fun e => absurd ((own_isT HOW.out e.symm).eq_ HS4.out.fb.isT) (by decide))
                  have z3 : w5.cell? ⟨Fb, 3, none⟩ = some (.slice Ak Ks.length ck) := hfb5.cell 3
                  have z3f := hfb5.frozen 3)
                have hadd := HS4.out.add (x := ⟨r, .slice Ab r.body.length cb⟩) how5 hg5 HOV.out HNW.out
                dsimp only at hadd
                have hR5 := (HRB4.out.chg (Chg.of_grown hg5) (fun e => by have := HLT.out _ e; omega)).chg ((Chg.refl (fun k => k = Fb) w5).setCell (p := ⟨Fb, 3, none⟩) (.inl rfl) (.slice A5' (Ks.length + 1) c5')) (by omega)
                clear y0 y1 y2 y3 y4 y5 g0 g1 g2 g3 g4 g5 q0 q1 z3 z3f hfb5 how5 hg5
                generalize w5.setCell ⟨Fb, 3, none⟩ (.slice A5' (Ks.length + 1) c5') = w6' at hadd hR5 ⊢
                have q1 : w6'.cell? ⟨w3.heap.size, 1, none⟩ = some (.slice Ab r.body.length cb) := hR5.cell 1
                have HAD := Lib.hid hadd
                clear hadd hR5
                obtain ⟨⟨y0, y1, y2, y3, y4, y5⟩, ⟨g0, g1, g2, g3, g4, g5⟩⟩ := rv_cells HAD.out.fb
                dsimp only at y0 y1 y2 y3 y4 y5
                go_wp2_with fail
                have e8 : (p : Int) + 8 + (r.body.length : Int) = ((p + 8 + r.body.length : Nat) : Int) := by omega
                have hput := HAD.out.put 2 (.int .i64 (p + 8 + r.body.length : Nat)) (r' := ⟨(G : Int), (C : Int), ((p + 8 + r.body.length : Nat) : Int), A5', (Ks ++ [(⟨r, .slice Ab r.body.length cb⟩ : Rk)]).length, c5', false, false⟩) (by simp [RV.cells]) ⟨rfl, by simp, rfl⟩
                rw [e8]
                go_roundw
                case rel => exact ⟨_, p + 8 + r.body.length, A5', c5', Lib.hid ⟨hput, HGO.out⟩⟩
                case measure =>
                  have e1 := endF_eq (hput.fb.cell 2)
                  have e2 := HEN.out
                  rw [e1, e2]
                  omega
            · have hli : ¬ (p : Int) < (n : Int) := by omega
              have dli : decide ((p : Int) < (n : Int)) = false := by simpa using hli
              go_wp2_with fail
              go_meet
              exact ⟨Ks, p, Ak, ck, Lib.hid ⟨HZ.out.1, HRD.out _ _ (HZ.out.2.done (by have := HL.out; omega))⟩⟩
        obtain ⟨Ks, p, Ak, ck, HZ⟩ := hcut
        obtain ⟨⟨y0, y1, y2, y3, y4, y5⟩, ⟨g0, g1, g2, g3, g4, g5⟩⟩ := rv_cells HZ.out.1.fb
        obtain ⟨⟨x0, x1, x2, x3, x4, x5⟩, ⟨f0, f1, f2, f3, f4, f5⟩⟩ := rv_cells HZ.out.1.res
        dsimp only at y0 y1 y2 y3 y4 y5
        dsimp only [RV.zero] at x0 x1 x2 x3 x4 x5
        have hne : Fb ≠ R := by omega
        go_wp2
        have h1 := (HZ.out.1.put 4 (.bool (decide (C ≤ Ks.length))) (r' := ⟨(G : Int), (C : Int), (p : Int), Ak, Ks.length, ck, decide (C ≤ Ks.length), false⟩) rfl ⟨rfl, rfl, rfl⟩).put 5 (.bool ((p : Int) == (n : Int))) (r' := ⟨(G : Int), (C : Int), (p : Int), Ak, Ks.length, ck, decide (C ≤ Ks.length), (p : Int) == (n : Int)⟩) rfl ⟨rfl, rfl, rfl⟩
        obtain ⟨h2, hc2⟩ := six_blk h1.res ⟨(G : Int), (C : Int), (p : Int), Ak, Ks.length, ck, decide (C ≤ Ks.length), (p : Int) == (n : Int)⟩
        unfold six at h2 hc2
        refine bodyPost_ret (readResults R _ _ ⟨(G : Int), (C : Int), (p : Int), Ak, Ks.length, ck, decide (C ≤ Ks.length), (p : Int) == (n : Int)⟩ rfl h2) rfl ⟨_, rfl, ?_, h1.bw.trans (hc2.to_below h1.bw.size fun k e => by have := HWR.out; omega)⟩
        unfold RdV
        rw [HZ.out.2]
        have e1 : (Fi.sound ⟨G, C, Ks.map Rk.rc, p⟩) = decide (C ≤ Ks.length) := by simp [Fi.sound]
        have e2 : ((p : Int) == (n : Int)) = decide (p = bs.length) := by
          rw [HL.out, Bool.eq_iff_iff]
          simp only [decide_eq_true_eq, beq_iff_eq]
          omega
        refine ⟨rfl, rfl, rfl, e1.symm, e2, Ks, rfl, rfl, h1.own.chgT hc2 fun k _ ht e => ?_⟩
        subst e
        exact ht.elim (fun h => absurd (h.eq_ h1.res.isT) (by decide)) (fun h => absurd (h.eq_ h1.res.isT) (by decide))
      · have hs : (hd == tk) = false := by simpa using he
        have hx : headR bs = none := by rw [HHR.out, if_neg (fun h => he (by rw [← HHT.out.1, ← HHT.out.2]; exact HHI.out.2 ⟨h.2.1, h.2.2.2.2⟩))]
        have HX := Lib.hid hx
        clear hx he
        go_quiet (fail)
        have hS6 : RdS w R Fb { RV.zero with gn := (G : Int), ct := (C : Int) } [] (w5.drewN nq) := HS5.out.1.below (below_drewN (Below.refl _ _) nq)
        clear k1 k2 hs h18c h18i
        generalize w5.drewN nq = w6 at hS6 ⊢
        have HS6 := Lib.hid hS6
        clear hS6
        obtain ⟨⟨x0, x1, x2, x3, x4, x5⟩, ⟨f0, f1, f2, f3, f4, f5⟩⟩ := rv_cells HS6.out.res
        dsimp only [RV.zero] at x0 x1 x2 x3 x4 x5
        have hfin := ReadP.none_ HS6.out HX.out
        unfold six RV.zero at hfin
        have HFI := Lib.hid hfin
        clear hfin
        go_wp2
        exact bodyPost_ret (readResults R _ _ RV.zero rfl HFI.out.1) rfl HFI.out.2
    · have hx : headR bs = none := by rw [HHR.out, if_neg (fun h => hgen ⟨h.2.2.1, h.2.2.2.1⟩)]
      have dg : decide (valR G < 1) = true := decide_eq_true (by unfold valR; split <;> omega)
      have HX := Lib.hid hx
      obtain ⟨V, hV⟩ : ∃ V, V = valR G := ⟨_, rfl⟩
      rw [← hV] at HV1 dg
      clear hgen hx hV
      go_enter Tryd.func44, Tryd.ntmps44
      go_upto_region 1 with fail
      rw [← HW.out.1, HWR.out]
      go_upto_region 2 with fail
      rw [← HW.out.2, ← HN.out.2]
      go_upto_region 5 with (go_at_call 67; refine (HV1.out _ HR.out).mono ?_; rintro _ w3 ⟨rfl, rfl⟩)
      have hS3 := HS2.out.put 0 (.int .i64 V) (r' := { RV.zero with gn := V }) rfl ⟨rfl, rfl, rfl⟩
      have hr3 := HR3.out 0 (.int .i64 V)
      clear x0 x1 x2 x3 x4 x5 y0 y1 y2 y3 y4 y5 f0 f1 f2 f3 f4 f5 g0 g1 g2 g3 g4 g5
      generalize w2.setCell ⟨Fb, 0, none⟩ (.int .i64 V) = w3 at hS3 hr3 ⊢
      have HS3 := Lib.hid hS3
      have HRD3 := Lib.hid hr3
      clear hS3 hr3
      obtain ⟨⟨y0, y1, y2, y3, y4, y5⟩, ⟨g0, g1, g2, g3, g4, g5⟩⟩ := rv_cells HS3.out.fb
      dsimp only [RV.zero] at y0 y1 y2 y3 y4 y5
      go_upto_region 6 with (go_at_call 67; refine (HV2.out _ HRD3.out).mono ?_; rintro _ w4 ⟨rfl, rfl⟩)
      have hS4 := HS3.out.put 1 (.int .i64 (C : Int)) (r' := { RV.zero with gn := V, ct := (C : Int) }) rfl ⟨rfl, rfl, rfl⟩
      clear y0 y1 y2 y3 y4 y5 g0 g1 g2 g3 g4 g5
      generalize w3.setCell ⟨Fb, 1, none⟩ (.int .i64 (C : Int)) = w4 at hS4 ⊢
      have HS4 := Lib.hid hS4
      clear hS4
      obtain ⟨⟨y0, y1, y2, y3, y4, y5⟩, _⟩ := rv_cells HS4.out.fb
      obtain ⟨⟨x0, x1, x2, x3, x4, x5⟩, ⟨f0, f1, f2, f3, f4, f5⟩⟩ := rv_cells HS4.out.res
      dsimp only [RV.zero] at x0 x1 x2 x3 x4 x5 y0 y1 y2 y3 y4 y5
      have hfin := ReadP.none_ HS4.out HX.out
      unfold six RV.zero at hfin
      have HFI := Lib.hid hfin
      clear hfin
      go_wp2
      exact bodyPost_ret (readResults R _ _ RV.zero rfl HFI.out.1) rfl HFI.out.2
  · have hx : headR bs = none := by
      unfold headR
      rw [if_neg (by have := HL.out; omega)]
    have HX := Lib.hid hx
    have hfin := ReadP.none_ HS2.out hx
    unfold six RV.zero at hfin
    have HFI := Lib.hid hfin
    clear hx hfin
    by_cases h18 : n < 18
    · have d1 : decide ((n : Int) < 18) = true := decide_eq_true (by omega)
      clear hsz
      go_enter Tryd.func44, Tryd.ntmps44
      go_upto_region 1 with fail
      rw [← HW.out.1, HWR.out]
      go_upto_region 2 with fail
      rw [← HW.out.2, ← HN.out.2]
      go_wp2
      exact bodyPost_ret (readResults R _ _ RV.zero rfl HFI.out.1) rfl HFI.out.2
    · have d1 : decide ((n : Int) < 18) = false := decide_eq_false (by omega)
      have d2 : decide (65536 < (n : Int)) = true := decide_eq_true (by omega)
      clear hsz
      go_enter Tryd.func44, Tryd.ntmps44
      go_upto_region 1 with fail
      rw [← HW.out.1, HWR.out]
      go_upto_region 2 with fail
      rw [← HW.out.2, ← HN.out.2]
      go_wp2
      exact bodyPost_ret (readResults R _ _ RV.zero rfl HFI.out.1) rfl HFI.out.2
end Go.Proofs.YtpkdalpjfcopbaaDoor
