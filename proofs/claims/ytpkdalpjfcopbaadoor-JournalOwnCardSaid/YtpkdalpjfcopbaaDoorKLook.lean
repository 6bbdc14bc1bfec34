/-
  The program's look.
-/
import Derived.Test.YtpkdalpjfcopbaaDoorKLookA
import Derived.Deep.CutBlock
namespace Go.Proofs.YtpkdalpjfcopbaaDoor
open Go.RowKit
def zs4 : UInt8 × UInt8 × UInt8 × UInt8 := (0, 0, 0, 0)
/-- What look comes to. -/
def Looked (w : World) (bs : List UInt8) (e : Ending) (w' : World) : Prop :=
  Below w.heap.size w w' ∧ match readR bs with
    | none => e = .returned (.agg (fcs false false 0 (.slice none 0 0) 0 zs4))
    | some f => ∃ v s K, e = .returned (.agg (fcs f.sound (decide (f.fin = bs.length)) (f.gen : Int) v (f.fin : Int) s)) ∧ sl s = part bs (f.fin - 4) 4 ∧ K.map Rk.rc = f.recs ∧ RcOwn w' w.heap.size v K
theorem RcOwn.chgT {w w' : World} {base : Nat} {v : Value} {K : List Rk} {S : Nat → Prop} (h : RcOwn w base v K) (hc : Chg S w w') (hS : ∀ g, base ≤ g → (IsT w 34 g ∨ IsT w 5 g) → ¬ S g) : RcOwn w' base v K :=
  ⟨own_chg h.own hc fun g hg => hS g (own_block_lt h.own hg).2.1 (.inl (own_isT h.own hg)), fun k r hk => own_chg (h.bod k r hk) hc fun g hg => hS g (own_block_lt (h.bod k r hk) hg).2.1 (.inr (own_isT (h.bod k r hk) hg)), h.pw⟩
/-- A look under way. -/
structure LkS (w : World) (R Fb Cb : Nat) (g c : Nat) (K : List Rk) (p : Nat) (v : Value) (s : UInt8 × UInt8 × UInt8 × UInt8) (wr : World) : Prop where
  res : Blk wr R 87 (fcs false false 0 (.slice none 0 0) 0 zs4)
  fb : Blk wr Fb 87 (fcs false false (g : Int) v (p : Int) s)
  cb : Blk wr Cb 3 #[.int .i64 (c : Int)]
  own : RcOwn wr w.heap.size v K
  bw : Below w.heap.size w wr
  ge : w.heap.size ≤ R ∧ R < Fb ∧ Fb < Cb
section
variable {w wr w' : World} {R Fb Cb g c p p' : Nat} {K : List Rk} {v : Value} {s s' : UInt8 × UInt8 × UInt8 × UInt8} {S : Nat → Prop}
theorem LkS.chg (h : LkS w R Fb Cb g c K p v s wr) (hc : Chg S wr w') (hS : ∀ k, S k → w.heap.size ≤ k ∧ ¬ IsT wr 87 k ∧ k ≠ Cb ∧ ¬ IsT wr 34 k ∧ ¬ IsT wr 5 k) : LkS w R Fb Cb g c K p v s w' :=
  ⟨h.res.chg hc fun e => (hS _ e).2.1 h.res.isT, h.fb.chg hc fun e => (hS _ e).2.1 h.fb.isT, h.cb.chg hc fun e => (hS _ e).2.2.1 rfl, h.own.chgT hc fun _k _ ht e => ht.elim (hS _ e).2.2.2.1 (hS _ e).2.2.2.2, h.bw.trans (hc.to_below h.bw.size fun k e => (hS k e).1), h.ge⟩
theorem LkS.below (h : LkS w R Fb Cb g c K p v s wr) (hb : Below wr.heap.size wr w') : LkS w R Fb Cb g c K p v s w' := ⟨h.res.over hb, h.fb.over hb, h.cb.over hb, h.own.below hb, h.bw.trans (hb.mono h.bw.size), h.ge⟩
/-- The end and the last sum are laid. -/
theorem LkS.put (h : LkS w R Fb Cb g c K p v s wr) (p' : Nat) (s' : UInt8 × UInt8 × UInt8 × UInt8) :
    LkS w R Fb Cb g c K p' v s' (((((wr.setCell ⟨Fb, 4, none⟩ (.int .i64 (p' : Int))).setCell ⟨Fb, 5, none⟩ (.int .u8 (s'.1.toNat : Int))).setCell ⟨Fb, 6, none⟩ (.int .u8 (s'.2.1.toNat : Int))).setCell ⟨Fb, 7, none⟩ (.int .u8 (s'.2.2.1.toNat : Int))).setCell ⟨Fb, 8, none⟩ (.int .u8 (s'.2.2.2.toNat : Int))) ∧
    Chg (fun k => k = Fb) wr (((((wr.setCell ⟨Fb, 4, none⟩ (.int .i64 (p' : Int))).setCell ⟨Fb, 5, none⟩ (.int .u8 (s'.1.toNat : Int))).setCell ⟨Fb, 6, none⟩ (.int .u8 (s'.2.1.toNat : Int))).setCell ⟨Fb, 7, none⟩ (.int .u8 (s'.2.2.1.toNat : Int))).setCell ⟨Fb, 8, none⟩ (.int .u8 (s'.2.2.2.toNat : Int))) := by
  have hc : Chg (fun k => k = Fb) wr (((((wr.setCell ⟨Fb, 4, none⟩ (.int .i64 (p' : Int))).setCell ⟨Fb, 5, none⟩ (.int .u8 (s'.1.toNat : Int))).setCell ⟨Fb, 6, none⟩ (.int .u8 (s'.2.1.toNat : Int))).setCell ⟨Fb, 7, none⟩ (.int .u8 (s'.2.2.1.toNat : Int))).setCell ⟨Fb, 8, none⟩ (.int .u8 (s'.2.2.2.toNat : Int))) :=
    (((((Chg.refl (fun k => k = Fb) wr).setCell (p := ⟨Fb, 4, none⟩) (.inl rfl) _).setCell (p := ⟨Fb, 5, none⟩) (.inl rfl) _).setCell (p := ⟨Fb, 6, none⟩) (.inl rfl) _).setCell (p := ⟨Fb, 7, none⟩) (.inl rfl) _).setCell (p := ⟨Fb, 8, none⟩) (.inl rfl) _
  have hge := h.ge
  refine ⟨⟨h.res.chg hc (by omega), ((((h.fb.set_ 4 _).set_ 5 _).set_ 6 _).set_ 7 _).set_ 8 _, h.cb.chg hc (by omega), h.own.chgT hc fun k _ ht e => ?_, h.bw.trans (hc.to_below h.bw.size fun k e => by omega), hge⟩, hc⟩
  subst e
  rcases ht with ht | ht
  · exact absurd (ht.eq_ h.fb.isT) (by decide)
  · exact absurd (ht.eq_ h.fb.isT) (by decide)
end
/-- The reader of a look under way. -/
structure LkR (w : World) (gr Pb : Nat) (A : Option Addr) (n cap : Nat) (bs : List UInt8) (p : Nat) (wr : World) : Prop where
  rd : ∃ As cs, RdAt wr gr w.heap.size A n cap bs p (.slice As 4 cs) ∧ 4 ≤ cs ∧ RdB wr w.heap.size As 4 (part bs (p - 4) 4)
  pb : Blk wr Pb 124 #[.pointer (some ⟨gr, 0, none⟩)]
theorem RdAt.chgN {w w' : World} {gr B n cap p : Nat} {A : Option Addr} {bs : List UInt8} {V : Value} {S : Nat → Prop} (h : RdAt w gr B A n cap bs p V) (hc : Chg S w w') (h1 : ¬ S gr) (h2 : ∀ k, S k → B ≤ k) : RdAt w' gr B A n cap bs p V :=
  ⟨h.blk.chg hc h1, h.rd.keep fun g hg => hc.block g (by have := h.blk.lt; have := h.lo; omega) (fun e => by have := h2 g e; omega), h.lo, h.le⟩
theorem HeadQ.none_ {W W' : World} {gr B n cap Fb Cb : Nat} {A : Option Addr} {bs : List UInt8} {v : Value} {s : UInt8 × UInt8 × UInt8 × UInt8} {b : Bool} (hq : HeadQ W gr B A n cap bs Fb Cb v s b W') (h : headR bs = none) : b = false := by
  cases b with
  | false => rfl
  | true =>
    obtain ⟨_, g, c, hg, _⟩ := hq
    rw [h] at hg
    cases hg
theorem HeadQ.some_ {W W' : World} {gr B n cap Fb Cb : Nat} {A : Option Addr} {bs : List UInt8} {v : Value} {s : UInt8 × UInt8 × UInt8 × UInt8} {b : Bool} {g c : Nat} (hq : HeadQ W gr B A n cap bs Fb Cb v s b W') (h : headR bs = some (g, c)) :
    b = true ∧ Blk W' Fb 87 (fcs false false (g : Int) v 0 s) ∧ Blk W' Cb 3 #[.int .i64 (c : Int)] ∧ ∃ A2 c2, RdAt W' gr B A n cap bs 18 (.slice A2 4 c2) ∧ 4 ≤ c2 ∧ RdB W' B A2 4 (part bs 14 4) := by
  cases b with
  | false =>
    obtain ⟨_, hg⟩ := hq
    rw [h] at hg
    cases hg
  | true =>
    obtain ⟨_, g', c', hg, h1⟩ := hq
    rw [h] at hg
    injection hg with hg
    injection hg with e1 e2
    subst e1 e2
    exact ⟨rfl, h1⟩
theorem LkS.add {w W w2 : World} {R Fb Cb g c p : Nat} {K : List Rk} {v v2 : Value} {s : UInt8 × UInt8 × UInt8 × UInt8} {x : Rk} (h : LkS w R Fb Cb g c K p v s W) (ho : w2.ownsRow w.heap.size 34 2 v2 (K.length + 1) (rowsK K ++ x.cells)) (hg : W.grownBy w2 v.ownBlock)
    (hx : W.ownsRow w.heap.size 5 1 x.v x.rc.body.length (bvs x.rc.body)) (hn : ∀ (k : Nat) (r : Rk) (g : Nat), K[k]? = some r → r.v.ownBlock = some g → x.v.ownBlock = some g → False) :
    LkS w R Fb Cb g c (K ++ [x]) p v2 s (w2.setCell ⟨Fb, 3, none⟩ v2) ∧ Chg (fun k => some k = v.ownBlock ∨ k = Fb) W (w2.setCell ⟨Fb, 3, none⟩ v2) := by
  have hc := Chg.of_grown hg
  have hcs : Chg (fun k => k = Fb) w2 (w2.setCell ⟨Fb, 3, none⟩ v2) := (Chg.refl (fun k => k = Fb) w2).setCell (p := ⟨Fb, 3, none⟩) (.inl rfl) _
  have hge := h.ge
  have off : ∀ {t : Nat} {k : Nat}, IsT W t k → t ≠ 34 → ¬ some k = v.ownBlock := fun ht hne e => hne (ht.eq_ (own_isT h.own.own e.symm))
  have hfb := h.fb.chg hc (off h.fb.isT (by decide))
  have hsn := h.own.snoc hc ho hx hn
  have ht2 : ∀ {t : Nat} {k : Nat}, IsT w2 t k → t ≠ 87 → ¬ k = Fb := fun ht hne e => by
    subst e
    exact hne (ht.eq_ hfb.isT)
  refine ⟨⟨(h.res.chg hc (off h.res.isT (by decide))).chg hcs (by omega), hfb.set_ 3 _, (h.cb.chg hc (off h.cb.isT (by decide))).chg hcs (by omega), hsn.chgT hcs fun k _ ht => ht.elim (fun h => ht2 h (by decide)) (fun h => ht2 h (by decide)), ?_, hge⟩, ?_⟩
  · exact (h.bw.trans (hc.to_below h.bw.size fun k e => (own_block_lt h.own.own e.symm).2.1)).trans (hcs.to_below (Nat.le_trans h.bw.size hc.size) fun k e => by omega)
  · exact (hc.mono fun k _ e => .inl e).thenS hcs fun k _ e => .inr e
theorem info_rec : (Tryd.prog.info? 34).map (fun i => (i.zero, i.size, i.bytes)) = some (some (.agg #[.int .i64 0, .slice none 0 0]), 2, 32) := by kernel_rfl
theorem u_recs : Tryd.prog.underlying 25 = some (.slice 34) := Tryd.underlying25
def endOf (Fb : Nat) (w : World) : Nat := match w.cell? ⟨Fb, 4, none⟩ with
  | some v => (intOf v).toNat
  | none => 0
theorem endOf_eq {w : World} {Fb p : Nat} (h : w.cell? ⟨Fb, 4, none⟩ = some (.int .i64 (p : Int))) : endOf Fb w = p := by
  unfold endOf
  rw [h]
  simp [intOf]
theorem set9_blk {w : World} {R t : Nat} {cs : Array Value} (h : Blk w R t cs) (hz : cs.size = 9) (u0 u1 u2 u3 u4 u5 u6 u7 u8 : Value) :
    Blk (((((((((w.setCell ⟨R, 0, none⟩ u0).setCell ⟨R, 1, none⟩ u1).setCell ⟨R, 2, none⟩ u2).setCell ⟨R, 3, none⟩ u3).setCell ⟨R, 4, none⟩ u4).setCell ⟨R, 5, none⟩ u5).setCell ⟨R, 6, none⟩ u6).setCell ⟨R, 7, none⟩ u7).setCell ⟨R, 8, none⟩ u8) R t #[u0, u1, u2, u3, u4, u5, u6, u7, u8] ∧
    Chg (fun k => k = R) w (((((((((w.setCell ⟨R, 0, none⟩ u0).setCell ⟨R, 1, none⟩ u1).setCell ⟨R, 2, none⟩ u2).setCell ⟨R, 3, none⟩ u3).setCell ⟨R, 4, none⟩ u4).setCell ⟨R, 5, none⟩ u5).setCell ⟨R, 6, none⟩ u6).setCell ⟨R, 7, none⟩ u7).setCell ⟨R, 8, none⟩ u8) := by
  obtain ⟨l⟩ := cs
  match l, hz with
  | [a0, a1, a2, a3, a4, a5, a6, a7, a8], _ =>
    have h0 := h.set_ 0 u0
    have h1 := h0.set_ 1 u1
    have h2 := h1.set_ 2 u2
    have h3 := h2.set_ 3 u3
    have h4 := h3.set_ 4 u4
    have h5 := h4.set_ 5 u5
    have h6 := h5.set_ 6 u6
    have h7 := h6.set_ 7 u7
    have h8 := h7.set_ 8 u8
    simp only [List.setIfInBounds_toArray, List.set_cons_zero, List.set_cons_succ] at h8
    have c0 := (Chg.refl (fun k => k = R) w).setCell (p := ⟨R, 0, none⟩) (.inl rfl) u0
    have c1 := c0.setCell (p := ⟨R, 1, none⟩) (.inl rfl) u1
    have c2 := c1.setCell (p := ⟨R, 2, none⟩) (.inl rfl) u2
    have c3 := c2.setCell (p := ⟨R, 3, none⟩) (.inl rfl) u3
    have c4 := c3.setCell (p := ⟨R, 4, none⟩) (.inl rfl) u4
    have c5 := c4.setCell (p := ⟨R, 5, none⟩) (.inl rfl) u5
    have c6 := c5.setCell (p := ⟨R, 6, none⟩) (.inl rfl) u6
    have c7 := c6.setCell (p := ⟨R, 7, none⟩) (.inl rfl) u7
    exact ⟨h8, c7.setCell (p := ⟨R, 8, none⟩) (.inl rfl) u8⟩
theorem lookResults (t2 : Nat) (tmps : Array Value) (w : World) (a0 a1 a2 a3 a4 a5 a6 a7 a8 : Value) (h2 : tmps.getD 2 undef = .pointer (some ⟨t2, 0, none⟩)) (hp : Blk w t2 87 #[a0, a1, a2, a3, a4, a5, a6, a7, a8]) :
    (results Tryd.f70 tmps).run Tryd.prog w = .ok (.agg #[a0, a1, a2, a3, a4, a5, a6, a7, a8]) w := by
  have c0 : w.cell? ⟨t2, 0, none⟩ = some a0 := by rw [hp.cell]; rfl
  have c1 : w.cell? ⟨t2, 1, none⟩ = some a1 := by rw [hp.cell]; rfl
  have c2 : w.cell? ⟨t2, 2, none⟩ = some a2 := by rw [hp.cell]; rfl
  have c3 : w.cell? ⟨t2, 3, none⟩ = some a3 := by rw [hp.cell]; rfl
  have c4 : w.cell? ⟨t2, 4, none⟩ = some a4 := by rw [hp.cell]; rfl
  have c5 : w.cell? ⟨t2, 5, none⟩ = some a5 := by rw [hp.cell]; rfl
  have c6 : w.cell? ⟨t2, 6, none⟩ = some a6 := by rw [hp.cell]; rfl
  have c7 : w.cell? ⟨t2, 7, none⟩ = some a7 := by rw [hp.cell]; rfl
  have c8 : w.cell? ⟨t2, 8, none⟩ = some a8 := by rw [hp.cell]; rfl
  simp only [results]
  rw [show Tryd.f70.results = #[.cell 2 87] from rfl]
  rw [Array.getD_eq_getD_getElem?] at h2
  simp [h2, c0, c1, c2, c3, c4, c5, c6, c7, c8, go_sem]
theorem RecQ.none_ {W W' : World} {gr B n cap p Rb : Nat} {A : Option Addr} {bs : List UInt8} {b : Bool} (hq : RecQ W gr B A n cap bs p Rb b W') (h : nextR bs p = none) : b = false := by
  cases b with
  | false => rfl
  | true =>
    obtain ⟨_, r, v, hg, _⟩ := hq
    rw [h] at hg
    cases hg
theorem RecQ.some_ {W W' : World} {gr B n cap p Rb : Nat} {A : Option Addr} {bs : List UInt8} {b : Bool} {r : Rc} (hq : RecQ W gr B A n cap bs p Rb b W') (h : nextR bs p = some r) :
    b = true ∧ ∃ v, W'.ownsRow W.heap.size 5 1 v r.body.length (bvs r.body) ∧ Blk W' Rb 34 #[.int .i64 r.kind, v] ∧ ∃ A2 c2, RdAt W' gr B A n cap bs (p + 8 + r.body.length) (.slice A2 4 c2) ∧ 4 ≤ c2 ∧ RdB W' B A2 4 (part bs (p + 4 + r.body.length) 4) := by
  cases b with
  | false =>
    obtain ⟨_, hg⟩ := hq
    rw [h] at hg
    cases hg
  | true =>
    obtain ⟨_, r', v, hg, h1⟩ := hq
    rw [h] at hg
    injection hg with hg
    subst hg
    exact ⟨rfl, v, h1⟩
/-- The five blocks of a look, laid. -/
theorem look_laid {w wA wB wC wD wE : World} {n cap : Nat} {A : Option Addr} {bs : List UInt8} (hr : RdB w w.heap.size A n bs)
    (hA : wA = w.alloc (.cells #[.bool false, .bool false, .int .i64 0, .slice none 0 0, .int .i64 0, .int .u8 0, .int .u8 0, .int .u8 0, .int .u8 0] 87))
    (hB : wB = wA.alloc (.cells #[.bool false, .bool false, .int .i64 0, .slice none 0 0, .int .i64 0, .int .u8 0, .int .u8 0, .int .u8 0, .int .u8 0] 87))
    (hC : wC = wB.alloc (.cells #[.int .i64 0] 3)) (hD : wD = wC.alloc (.cells #[.slice A n cap, .int .i64 0, .slice none 0 0] 126))
    (hE : wE = wD.alloc (.cells #[.pointer (some ⟨wC.heap.size, 0, none⟩)] 124)) :
    Blk wE w.heap.size 87 (fcs false false 0 (.slice none 0 0) 0 zs4) ∧ Blk wE wA.heap.size 87 (fcs false false 0 (.slice none 0 0) 0 zs4) ∧ Blk wE wB.heap.size 3 #[.int .i64 0] ∧ RdAt wE wC.heap.size w.heap.size A n cap bs 0 (.slice none 0 0) ∧ Blk wE (wC.heap.size + 1) 124 #[.pointer (some ⟨wC.heap.size, 0, none⟩)] ∧ Below w.heap.size w wE ∧ w.heap.size < wA.heap.size ∧ wA.heap.size < wB.heap.size ∧ wB.heap.size < wC.heap.size := by
  have a1 : Blk wA w.heap.size 87 (fcs false false 0 (.slice none 0 0) 0 zs4) := by rw [hA]; exact Blk.new _ _ _
  have b1 : Blk wB wA.heap.size 87 (fcs false false 0 (.slice none 0 0) 0 zs4) := by rw [hB]; exact Blk.new _ _ _
  have c1 : Blk wC wB.heap.size 3 #[.int .i64 0] := by rw [hC]; exact Blk.new _ _ _
  have d1 : Blk wD wC.heap.size 126 #[.slice A n cap, .int .i64 0, .slice none 0 0] := by rw [hD]; exact Blk.new _ _ _
  have e1 : Blk wE wD.heap.size 124 #[.pointer (some ⟨wC.heap.size, 0, none⟩)] := by rw [hE]; exact Blk.new _ _ _
  have ba : Below w.heap.size w wA := by rw [hA]; exact one_box' _ _
  have bb : Below wA.heap.size wA wB := by rw [hB]; exact one_box' _ _
  have bc : Below wB.heap.size wB wC := by rw [hC]; exact one_box' _ _
  have bd : Below wC.heap.size wC wD := by rw [hD]; exact one_box' _ _
  have be : Below wD.heap.size wD wE := by rw [hE]; exact one_box' _ _
  have sa : wA.heap.size = w.heap.size + 1 := by rw [hA]; simp
  have sb : wB.heap.size = wA.heap.size + 1 := by rw [hB]; simp
  have sc : wC.heap.size = wB.heap.size + 1 := by rw [hC]; simp
  have sd : wD.heap.size = wC.heap.size + 1 := by rw [hD]; simp
  have hw : Below w.heap.size w wE := Below.then (Below.then (Below.then (Below.then ba bb) bc) bd) be
  rw [sd] at e1
  exact ⟨(((a1.over bb).over bc).over bd).over be, ((b1.over bc).over bd).over be, (c1.over bd).over be, ⟨d1.over be, hr.below hw, by omega, by omega⟩, e1, hw, by omega, by omega, by omega⟩
set_option maxRecDepth 100000 in
set_option maxHeartbeats 1600000 in
theorem look_any {w : World} {n cap : Nat} {A : Option Addr} {bs : List UInt8} (hr : RdB w w.heap.size A n bs) (hn : n ≤ cap) (hc : cap ≤ 9223372036854775807) (ht : Nibs w) :
    Calls Tryd.prog 70 #[.slice A n cap] w (Looked w bs) := by
  obtain ⟨wA, hwA⟩ : ∃ x, x = w.alloc (.cells #[.bool false, .bool false, .int .i64 0, .slice none 0 0, .int .i64 0, .int .u8 0, .int .u8 0, .int .u8 0, .int .u8 0] 87) := ⟨_, rfl⟩
  obtain ⟨wB, hwB⟩ : ∃ x, x = wA.alloc (.cells #[.bool false, .bool false, .int .i64 0, .slice none 0 0, .int .i64 0, .int .u8 0, .int .u8 0, .int .u8 0, .int .u8 0] 87) := ⟨_, rfl⟩
  obtain ⟨wC, hwC⟩ : ∃ x, x = wB.alloc (.cells #[.int .i64 0] 3) := ⟨_, rfl⟩
  obtain ⟨wD, hwD⟩ : ∃ x, x = wC.alloc (.cells #[.slice A n cap, .int .i64 0, .slice none 0 0] 126) := ⟨_, rfl⟩
  obtain ⟨wE, hwE⟩ : ∃ x, x = wD.alloc (.cells #[.pointer (some ⟨wC.heap.size, 0, none⟩)] 124) := ⟨_, rfl⟩
  have hlaid := look_laid hr hwA hwB hwC hwD hwE
  have HW := Lib.hid (And.intro hwA (And.intro hwB (And.intro hwC (And.intro hwD hwE))))
  have hmf : ∀ (fn : Fn) (first cap : Array Value) (w : World), (Instr.makeFunc fn first cap).run Tryd.prog w = .ok (.func fn first cap) w := fun _ _ _ _ => rfl
  have hnib : 0 < w.heap.size := cell_lt (ht 0 (by omega))
  obtain ⟨R, hR⟩ : ∃ x, x = w.heap.size := ⟨_, rfl⟩
  obtain ⟨Fb, hFb⟩ : ∃ x, x = wA.heap.size := ⟨_, rfl⟩
  obtain ⟨Cb, hCb⟩ : ∃ x, x = wB.heap.size := ⟨_, rfl⟩
  obtain ⟨gr, hgr⟩ : ∃ x, x = wC.heap.size := ⟨_, rfl⟩
  have HN := Lib.hid (And.intro hR (And.intro hFb (And.intro hCb hgr)))
  rw [← hFb, ← hCb, ← hgr] at hlaid
  have hl2 : Blk wE R 87 (fcs false false 0 (.slice none 0 0) 0 zs4) := by rw [hR]; exact hlaid.1
  have HLD := Lib.hid hlaid
  have HR0 := Lib.hid hl2
  have hE2 : wE = (wC.alloc (.cells #[.slice A n cap, .int .i64 0, .slice none 0 0] 126)).alloc (.cells #[.pointer (some ⟨gr, 0, none⟩)] 124) := by rw [hwE, hwD, hgr]
  have HE2 := Lib.hid hE2
  have HT := Lib.hid ht
  have HL := Lib.hid hr.lenB
  have hlt1 : R < Fb := by have := hlaid.2.2.2.2.2.2.1; omega
  have hlt2 : Fb < Cb := hlaid.2.2.2.2.2.2.2.1
  have hlt3 : Cb < gr := hlaid.2.2.2.2.2.2.2.2
  have hwR : w.heap.size = R := hR.symm
  have HWR := Lib.hid hwR
  have hng : 0 ≠ gr := by omega
  have HNG := Lib.hid hng
  clear hwA hwB hwC hwD hwE hlaid hl2 hE2 hr ht hR hFb hCb hgr hwR hnib hng
  have HOK := Lib.hid (one_box' wE (.cells #[.bool false] 4))
  have HQ1 : Hid (Calls Tryd.prog 79 #[.func (.func 80) #[] #[.pointer (some ⟨gr + 1, 0, none⟩), .pointer (some ⟨Fb, 0, none⟩), .pointer (some ⟨Cb, 0, none⟩)]] wE (Tried wE (HeadQ (wE.alloc (.cells #[.bool false] 4)) gr w.heap.size A n cap bs Fb Cb (.slice none 0 0) zs4))) := by
    refine Lib.hid (attempt_any _ _ _ _ (fun args W => by kernel_rfl) ?_)
    have hb := HOK.out
    have hOk := Blk.new wE 4 #[.bool false]
    obtain ⟨_, hF, hC, hG, hP, hbw, _⟩ := HLD.out
    refine (look1_any (hP.over hb) (hF.over hb) (hC.over hb) (hG.below hb) hn hc (HT.out.below (hbw.trans (hb.mono hbw.size))) HNG.out (by rw [HWR.out]; omega) (by rw [HWR.out]; omega)).mono fun e W hq => ⟨hq, ?_⟩
    have hq2 : Chg (fun k => k = gr ∨ k = Fb ∨ k = Cb) (wE.alloc (.cells #[.bool false] 4)) W := by
      rcases hq with hq | hq
      · exact hq.2.1
      · exact hq.2.1
    exact hOk.chg hq2 fun h => by
      have := hG.blk.lt
      have := hF.lt
      have := hC.lt
      omega
  have HOW : Hid (∀ W, Chg (fun k => k = gr ∨ k = Fb ∨ k = Cb) (wE.alloc (.cells #[.bool false] 4)) W → ∀ w6, Chg (fun k => k = wE.heap.size) W w6 → Below w.heap.size w w6 ∧ Blk w6 R 87 (fcs false false 0 (.slice none 0 0) 0 zs4) ∧ Blk w6 (gr + 1) 124 #[.pointer (some ⟨gr, 0, none⟩)]) := Lib.hid fun W h1 w6 h2 => by
    have hb := HOK.out
    obtain ⟨_, hF, hC, hG, hP, hbw, _⟩ := HLD.out
    have e0 := HWR.out
    have l1 := hP.lt
    have l2 := (HR0.out).lt
    exact ⟨(hbw.trans (hb.mono hbw.size)).trans ((h1.to_below (Nat.le_trans hbw.size hb.size) fun k h => by omega).trans (h2.to_below (Nat.le_trans (Nat.le_trans hbw.size hb.size) h1.size) fun k h => by omega)), ((HR0.out.over hb).chg h1 (by omega)).chg h2 (by omega), ((hP.over hb).chg h1 (by omega)).chg h2 (by omega)⟩
  cases hh : headR bs with
  | none =>
    have HX := Lib.hid hh
    have hx0 : readR bs = none := by unfold readR; rw [hh]
    have HX0 := Lib.hid hx0
    clear hh hx0
    go_enter Tryd.func70, Tryd.ntmps70
    go_upto_region 1 with fail
    rw [← HW.out.1, HWR.out]
    go_upto_region 2 with fail
    rw [← HW.out.2.1, ← HN.out.2.1]
    go_upto_region 3 with fail
    rw [← HW.out.2.2.1, ← HN.out.2.2.1]
    go_upto_region 4 with fail
    rw [← HN.out.2.2.2]
    rw [← HE2.out]
    go_upto_region 5 with (go_at_call 79; refine HQ1.out.mono ?_; rintro _ w6 ⟨b, W, rfl, hq, hc6⟩; obtain rfl := hq.none_ HX.out; have H6 := Lib.hid (HOW.out W hq.1 w6 hc6); clear hq hc6)
    have hR := H6.out.2.1
    unfold fcs zs4 at hR
    have x0 : w6.cell? ⟨R, 0, none⟩ = some (.bool false) := by rw [hR.cell]; rfl
    have x1 : w6.cell? ⟨R, 1, none⟩ = some (.bool false) := by rw [hR.cell]; rfl
    have x2 : w6.cell? ⟨R, 2, none⟩ = some (.int .i64 0) := by rw [hR.cell]; rfl
    have x3 : w6.cell? ⟨R, 3, none⟩ = some (.slice none 0 0) := by rw [hR.cell]; rfl
    have x4 : w6.cell? ⟨R, 4, none⟩ = some (.int .i64 0) := by rw [hR.cell]; rfl
    have x5 : w6.cell? ⟨R, 5, none⟩ = some (.int .u8 0) := by rw [hR.cell]; rfl
    have x6 : w6.cell? ⟨R, 6, none⟩ = some (.int .u8 0) := by rw [hR.cell]; rfl
    have x7 : w6.cell? ⟨R, 7, none⟩ = some (.int .u8 0) := by rw [hR.cell]; rfl
    have x8 : w6.cell? ⟨R, 8, none⟩ = some (.int .u8 0) := by rw [hR.cell]; rfl
    have f0 := hR.frozen 0
    have f1 := hR.frozen 1
    have f2 := hR.frozen 2
    have f3 := hR.frozen 3
    have f4 := hR.frozen 4
    have f5 := hR.frozen 5
    have f6 := hR.frozen 6
    have f7 := hR.frozen 7
    have f8 := hR.frozen 8
    clear hR
    go_wp2
    have h9 := set9_blk H6.out.2.1 (by rfl) (.bool false) (.bool false) (.int .i64 0) (.slice none 0 0) (.int .i64 0) (.int .u8 0) (.int .u8 0) (.int .u8 0) (.int .u8 0)
    refine bodyPost_ret (lookResults R _ _ _ _ _ _ _ _ _ _ _ rfl h9.1) rfl ⟨H6.out.1.trans (h9.2.to_below H6.out.1.size fun k e => by have := HWR.out; omega), ?_⟩
    rw [HX0.out]
    rfl
  | some gc =>
    obtain ⟨g, c⟩ := gc
    have HX := Lib.hid hh
    clear hh
    go_enter Tryd.func70, Tryd.ntmps70
    go_upto_region 1 with fail
    rw [← HW.out.1, HWR.out]
    go_upto_region 2 with fail
    rw [← HW.out.2.1, ← HN.out.2.1]
    go_upto_region 3 with fail
    rw [← HW.out.2.2.1, ← HN.out.2.2.1]
    go_upto_region 4 with fail
    rw [← HN.out.2.2.2]
    rw [← HE2.out]
    go_upto_region 6 with (go_at_call 79; refine HQ1.out.mono ?_; rintro _ w6 ⟨b, W, rfl, hq, hc6⟩; obtain ⟨rfl, hF6, hC6, A6, c6, hat6, hcc6, hrd6⟩ := hq.some_ HX.out; have H6 := Lib.hid (And.intro (HOW.out W hq.1 w6 hc6) (And.intro hc6 (And.intro hF6 (And.intro hC6 (And.intro hat6 (And.intro hcc6 hrd6)))))); clear hq hc6 hF6 hC6 hat6 hcc6 hrd6)
    obtain ⟨⟨hbw, hR6, hP6⟩, hc6, hF6, hC6, hat6, hcc6, hrd6⟩ := H6.out
    have hgrW : gr < W.heap.size := hat6.blk.lt
    have hWE : gr + 1 < wE.heap.size := HLD.out.2.2.2.2.1.lt
    have hatX : RdAt w6 gr w.heap.size A n cap bs 18 (.slice A6 4 c6) := hat6.chgN hc6 (by omega) (fun k e => by have := HWR.out; omega)
    have hrdX : RdB w6 w.heap.size A6 4 (part bs 14 4) := hrd6.keep fun x hx => hc6.block x (by have := HWR.out; omega) (by have := HWR.out; omega)
    have HS0 : Hid (LkS w R Fb Cb g c [] 0 (.slice none 0 0) zs4 w6) := Lib.hid ⟨hR6, hF6.chg hc6 (by omega), hC6.chg hc6 (by omega), RcOwn.nil, hbw, by have := HWR.out; omega, hlt1, hlt2⟩
    obtain ⟨bA, oA, rfl, hbA, hcA⟩ := hrdX.at_ (by omega)
    have h18 : 18 ≤ n := hatX.le
    obtain ⟨s6, hs6⟩ := sl_of (part_length (l := bs) (p := 14) (n := 4) (by have := HL.out; omega))
    rw [hs6] at hcA
    have x0 : w6.cell? ⟨bA, oA, none⟩ = some (.int .u8 (s6.1.toNat : Int)) := hcA 0 _ rfl
    have x1 : w6.cell? ⟨bA, oA + 1, none⟩ = some (.int .u8 (s6.2.1.toNat : Int)) := hcA 1 _ rfl
    have x2 : w6.cell? ⟨bA, oA + 2, none⟩ = some (.int .u8 (s6.2.2.1.toNat : Int)) := hcA 2 _ rfl
    have x3 : w6.cell? ⟨bA, oA + 3, none⟩ = some (.int .u8 (s6.2.2.2.toNat : Int)) := hcA 3 _ rfl
    have p0 : w6.cell? ⟨gr + 1, 0, none⟩ = some (.pointer (some ⟨gr, 0, none⟩)) := hP6.cell 0
    have k1 : w6.cell? ⟨gr, 1, none⟩ = some (.int .i64 18) := hatX.blk.cell 1
    have k2 : w6.cell? ⟨gr, 2, none⟩ = some (.slice (some ⟨bA, oA, none⟩) 4 c6) := hatX.blk.cell 2
    have hFB := HS0.out.fb
    have y4 : w6.cell? ⟨Fb, 4, none⟩ = some (.int .i64 0) := hFB.cell 4
    have y5 : w6.cell? ⟨Fb, 5, none⟩ = some (.int .u8 0) := hFB.cell 5
    have y6 : w6.cell? ⟨Fb, 6, none⟩ = some (.int .u8 0) := hFB.cell 6
    have y7 : w6.cell? ⟨Fb, 7, none⟩ = some (.int .u8 0) := hFB.cell 7
    have y8 : w6.cell? ⟨Fb, 8, none⟩ = some (.int .u8 0) := hFB.cell 8
    have f4 := hFB.frozen 4
    have f5 := hFB.frozen 5
    have f6 := hFB.frozen 6
    have f7 := hFB.frozen 7
    have f8 := hFB.frozen 8
    have hbne : bA ≠ Fb := by have := HWR.out; omega
    have hgF : gr ≠ Fb := by omega
    have hgP : gr + 1 ≠ Fb := by omega
    have hat := at4 ⟨bA, oA, none⟩ c6
    have HRX := Lib.hid (And.intro hatX (And.intro hrdX (And.intro hs6 (And.intro hP6 hcc6))))
    clear hatX hrdX hcA hs6 hFB hbw hR6 hP6 hc6 hF6 hC6 hat6 hcc6 hrd6
    go_upto_block 0 with (fail)
    obtain ⟨w8, hw8⟩ : ∃ x, x = ((((w6.setCell ⟨Fb, 4, none⟩ (.int .i64 18)).setCell ⟨Fb, 5, none⟩ (.int .u8 (s6.1.toNat : Int))).setCell ⟨Fb, 6, none⟩ (.int .u8 (s6.2.1.toNat : Int))).setCell ⟨Fb, 7, none⟩ (.int .u8 (s6.2.2.1.toNat : Int))).setCell ⟨Fb, 8, none⟩ (.int .u8 (s6.2.2.2.toNat : Int)) := ⟨_, rfl⟩
    have hput : LkS w R Fb Cb g c [] 18 (.slice none 0 0) s6 w8 ∧ Chg (fun k => k = Fb) w6 w8 := by rw [hw8]; exact HS0.out.put 18 s6
    have hRR : LkR w gr (gr + 1) A n cap bs 18 w8 := ⟨⟨some ⟨bA, oA, none⟩, c6, HRX.out.1.chgN hput.2 (by omega) (fun k e => by have := HWR.out; omega), HRX.out.2.2.2.2, HRX.out.2.1.keep fun x hx => hput.2.block x (by have := HRX.out.1.blk.lt; have := HWR.out; omega) (by have := HWR.out; omega)⟩, HRX.out.2.2.2.1.chg hput.2 (by omega)⟩
    have hn6 : n ≤ 65536 := by have := (headR_text HX.out).2.2.1; have := HL.out; omega
    have HGO : Hid (LkS w R Fb Cb g c [] 18 (.slice none 0 0) s6 w8 ∧ LkR w gr (gr + 1) A n cap bs 18 w8 ∧ Going bs [] 18 ∧ part bs (18 - 4) 4 = sl s6) := Lib.hid ⟨hput.1, hRR, Going.start (by have := HL.out; omega), HRX.out.2.2.1⟩
    have HRD : Hid (∀ ms p, framesR bs bs.length 18 = (ms, p) → readR bs = some ⟨g, c, ms, p⟩) := Lib.hid fun ms p h => by
      unfold readR
      rw [HX.out]
      dsimp only
      rw [h]
    rw [← hw8]
    have HWRn := Lib.hid (And.intro hlt1 (And.intro hlt2 hlt3))
    clear hw8 hput hRR x0 x1 x2 x3 p0 k1 k2 y4 y5 y6 y7 y8 f4 f5 f6 f7 f8 hat HS0 HRX H6 HQ1 HOW HOK HLD HE2 HW hbne hgF hgP
    go_cut [6] from 26 to 51 (fun _ wc => ∃ (K : List Rk) (p : Nat) (v : Value) (s : UInt8 × UInt8 × UInt8 × UInt8), Hid (LkS w R Fb Cb g c K p v s wc ∧ readR bs = some ⟨g, c, K.map Rk.rc, p⟩ ∧ part bs (p - 4) 4 = sl s))
    case first =>
      go_wp2_with fail
      go_loopw [6] (fun _ wr => ∃ (K : List Rk) (p : Nat) (v : Value) (s : UInt8 × UInt8 × UInt8 × UInt8), Hid (LkS w R Fb Cb g c K p v s wr ∧ LkR w gr (gr + 1) A n cap bs p wr ∧ Going bs (K.map Rk.rc) p ∧ part bs (p - 4) 4 = sl s)) (fun _ wr => n - endOf Fb wr)
      case atStart => exact ⟨[], 18, _, s6, HGO⟩
      case round =>
        obtain ⟨K, p, v, s, HZ⟩ := hrel
        have hfb := HZ.out.1.fb
        have y4 : wr.cell? ⟨Fb, 4, none⟩ = some (.int .i64 (p : Int)) := hfb.cell 4
        have hpn := HZ.out.2.2.1.hi
        have hpl := HZ.out.2.2.1.lo
        rw [HL.out] at hpn
        have HEN := Lib.hid (endOf_eq y4)
        clear hfb
        by_cases hlt : p < n
        · have hli : (p : Int) < (n : Int) := by omega
          obtain ⟨As, cs, hat, hcs4, hrd⟩ := HZ.out.2.1.rd
          have hP := HZ.out.2.1.pb
          obtain ⟨w1, hw1⟩ : ∃ x, x = wr.alloc (.cells #[.int .i64 0, .slice none 0 0] 34) := ⟨_, rfl⟩
          have hb1 : Below wr.heap.size wr w1 := by rw [hw1]; exact one_box' _ _
          have hB1 : Blk w1 wr.heap.size 34 #[.int .i64 0, .slice none 0 0] := by rw [hw1]; exact Blk.new _ _ _
          obtain ⟨w2, hw2⟩ : ∃ x, x = w1.alloc (.cells #[.bool false] 4) := ⟨_, rfl⟩
          have hb2 : Below w1.heap.size w1 w2 := by rw [hw2]; exact one_box' _ _
          have hO2 : Blk w2 w1.heap.size 4 #[.bool false] := by rw [hw2]; exact Blk.new _ _ _
          have hb12 := Below.then hb1 hb2
          have hatl := hat.blk.lt
          have hPl := hP.lt
          have hsz1 : wr.heap.size < w1.heap.size := hB1.lt
          have hQ2 : Calls Tryd.prog 79 #[.func (.func 82) #[] #[.pointer (some ⟨gr + 1, 0, none⟩), .pointer (some ⟨wr.heap.size, 0, none⟩)]] w1 (Tried w1 (RecQ w2 gr w.heap.size A n cap bs p wr.heap.size)) := by
            refine attempt_any _ _ _ _ (fun args W => by kernel_rfl) ?_
            rw [← hw2]
            refine (look2_any (hP.over hb12) (hB1.over hb2) (hat.below hb12) (hrd.below (hb12.mono HZ.out.1.bw.size)) hn hc (by omega) (HT.out.below (HZ.out.1.bw.trans (hb12.mono HZ.out.1.bw.size))) HNG.out HZ.out.1.bw.size).mono fun e W hq => ⟨hq, ?_⟩
            have hq2 : Chg (fun k => k = gr ∨ k = wr.heap.size) w2 W := by
              rcases hq with hq | hq
              · exact hq.2.1
              · exact hq.2.1
            exact hO2.chg hq2 (by omega)
          have HW1 := Lib.hid hw1
          have HQ2 := Lib.hid hQ2
          have HCW : Hid (∀ W, Chg (fun k => k = gr ∨ k = wr.heap.size) w2 W → ∀ w3, Chg (fun k => k = w1.heap.size) W w3 → LkS w R Fb Cb g c K p v s w3 ∧ Blk w3 (gr + 1) 124 #[.pointer (some ⟨gr, 0, none⟩)]) := Lib.hid fun W h1 w3 h2 => by
            have hcc : Chg (fun k => k = gr) wr w3 := ((Chg.of_below hb12 (fun k => k = gr)).thenS h1 fun i hi e => by omega).thenS h2 fun i hi e => by omega
            have nt : ∀ {t : Nat}, t ≠ 126 → ¬ IsT wr t gr := fun hne h => hne (h.eq_ hat.blk.isT)
            have hgrw : w.heap.size ≤ gr := by have := HWR.out; omega
            exact ⟨HZ.out.1.chg hcc fun k e => by subst e; exact ⟨hgrw, nt (by decide), by omega, nt (by decide), nt (by decide)⟩, hP.chg hcc (by omega)⟩
          have HSZ := Lib.hid (And.intro hO2.lt (And.intro hb2 (And.intro hatl (And.intro hPl hsz1))))
          clear hw1 hw2 hQ2 hb1 hB1 hb2 hO2 hb12 hat hcs4 hrd hP
          cases hh : nextR bs p with
          | none =>
            have HX2 := Lib.hid hh
            clear hh
            go_upto_region 10 with fail
            rw [← HW1.out]
            go_wp2_with (go_at_call 79; refine HQ2.out.mono ?_; rintro _ w3 ⟨b, W, rfl, hq, hc3⟩; obtain rfl := hq.none_ HX2.out; have H3 := Lib.hid (HCW.out W hq.1 w3 hc3); clear hq hc3)
            go_meet
            exact ⟨K, p, v, s, Lib.hid ⟨H3.out.1, HRD.out _ _ (HZ.out.2.2.1.stop (by have := HL.out; omega) HX2.out), HZ.out.2.2.2⟩⟩
          | some r =>
            have HX2 := Lib.hid hh
            clear hh
            go_upto_region 10 with fail
            rw [← HW1.out]
            go_upto_region 11 with (go_at_call 79; refine HQ2.out.mono ?_; rintro _ w3 ⟨b, W, rfl, hq, hc3⟩; obtain ⟨rfl, vb, hov, hRb, A3, c3, hat3, hcc3, hrd3⟩ := hq.some_ HX2.out; have H3 := Lib.hid (And.intro (HCW.out W hq.1 w3 hc3) (And.intro hc3 (And.intro hov (And.intro hRb (And.intro hat3 (And.intro hcc3 hrd3)))))); clear hq hc3 hov hRb hat3 hcc3 hrd3)
            obtain ⟨⟨hS3, hP3⟩, hc3, hov0, hRb0, hat0, hcc3, hrd0⟩ := H3.out
            have hwl : wr.heap.size < w1.heap.size := HSZ.out.2.2.2.2
            have hWl := hat0.blk.lt
            obtain ⟨hs2, hb2', hatl, hPl, _⟩ := HSZ.out
            have hbl : w.heap.size ≤ gr := by have := HWR.out; omega
            have hws := HZ.out.1.bw.size
            have hov : w3.ownsRow w.heap.size 5 1 vb r.body.length (bvs r.body) := own_base (own_chg hov0 hc3 fun x hx e => by have := (own_block_lt hov0 hx).2.1; omega) (by omega)
            have hnew : ∀ (k : Nat) (x : Rk) (q : Nat), K[k]? = some x → x.v.ownBlock = some q → vb.ownBlock = some q → False := fun k x q hk h1 h2 => by
              have e1 := (own_block_lt (HZ.out.1.own.bod k x hk) h1).1
              have e2 := (own_block_lt hov0 h2).2.1
              omega
            have hRb : Blk w3 wr.heap.size 34 #[.int .i64 r.kind, vb] := hRb0.chg hc3 (by omega)
            have hat3 := hat0.chgN hc3 (by omega) (fun k e => by omega)
            have hrd3 : RdB w3 w.heap.size A3 4 (part bs (p + 4 + r.body.length) 4) := hrd0.keep fun x hx => hc3.block x (by omega) (by omega)
            obtain ⟨Ab, cb, rfl, _, _⟩ := own_shape hov
            obtain ⟨Av, cv, rfl, _, _⟩ := hS3.own.shape
            have hKb : K.length ≤ 8192 := by
              have h1 := HZ.out.2.2.1.bd (by have := HL.out; omega)
              have h2 := bodies_le (K.map Rk.rc)
              rw [List.length_map] at h2
              omega
            have y3 : w3.cell? ⟨Fb, 3, none⟩ = some (.slice Av K.length cv) := hS3.fb.cell 3
            have y3f := hS3.fb.frozen 3
            have q0 : w3.cell? ⟨wr.heap.size, 0, none⟩ = some (.int .i64 r.kind) := hRb.cell 0
            have q1 : w3.cell? ⟨wr.heap.size, 1, none⟩ = some (.slice Ab r.body.length cb) := hRb.cell 1
            obtain ⟨i1, hi1, hr0, hr1, hr2⟩ := info_parts info_rec
            have HNW := Lib.hid hnew
            have HS3 := Lib.hid hS3
            have HOV := Lib.hid hov
            have HA3 := Lib.hid (And.intro hat3 (And.intro hcc3 (And.intro hrd3 hP3)))
            have y4' := y4
            clear hnew hS3 hov hat3 hcc3 hrd3 hP3 hc3 hov0 hRb0 hat0 hrd0 hRb y4 y4' hb2'
            go_upto_region 12 with (
               at_builtin
               refine appN w3 (by rfl) _ _ 25 (by rfl) w.heap.size 34 i1 _ 2 32 u_recs hi1 hr0 hr1 hr2 rfl (by omega) _ K.length _ (by rfl) HS3.out.own.own #[.int .i64 r.kind, .slice Ab r.body.length cb] rfl (by rfl) (by simp; exact ⟨rfl, rfl⟩) (by simp only [maxLen]; omega) (by omega) HS3.out.bw.size ?_
               intro v4 w4 how4 _ hg4
               obtain ⟨A4, c4, rfl, _, _⟩ := own_shape how4
               have hfb4 : Blk w4 Fb 87 _ := HS3.out.fb.chg (Chg.of_grown hg4) (fun e => absurd ((own_isT HS3.out.own.own e.symm).eq_ HS3.out.fb.isT) (by decide))
               have z3 : w4.cell? ⟨Fb, 3, none⟩ = some (.slice Av K.length cv) := hfb4.cell 3
               have z3f := hfb4.frozen 3)
            have hadd := HS3.out.add (x := ⟨r, .slice Ab r.body.length cb⟩) how4 hg4 HOV.out HNW.out
            have hoff : ∀ k, some k = (Value.slice Av K.length cv).ownBlock ∨ k = Fb → w.heap.size ≤ k ∧ k ≠ gr ∧ k ≠ gr + 1 := fun k e => by
              rcases e with e | e
              · have h1 := (own_block_lt HS3.out.own.own e.symm).2.1
                have h2 := own_isT HS3.out.own.own e.symm
                refine ⟨h1, fun e2 => ?_, fun e2 => ?_⟩
                · subst e2
                  exact absurd (h2.eq_ HA3.out.1.blk.isT) (by decide)
                · subst e2
                  exact absurd (h2.eq_ HA3.out.2.2.2.isT) (by decide)
              · have := HWR.out
                omega
            clear y3 y3f q0 q1 hfb4 z3 z3f
            generalize w4.setCell ⟨Fb, 3, none⟩ (.slice A4 (K.length + 1) c4) = w5 at hadd ⊢
            obtain ⟨q, hq⟩ : ∃ q, q = p + 8 + r.body.length := ⟨_, rfl⟩
            have hatl3 := HA3.out.1.blk.lt
            have hat5 := HA3.out.1.chgN hadd.2 (fun e => (hoff _ e).2.1 rfl) (fun k e => (hoff k e).1)
            rw [← hq] at hat5
            have hP5 := HA3.out.2.2.2.chg hadd.2 (fun e => (hoff _ e).2.2 rfl)
            have hrd5 : RdB w5 w.heap.size A3 4 (part bs (p + 4 + r.body.length) 4) := HA3.out.2.2.1.keep fun x hx => hadd.2.block x (by omega) (fun e => by have := (hoff _ e).1; omega)
            have e4 : p + 4 + r.body.length = q - 4 := by omega
            rw [e4] at hrd5
            have hgo : Going bs ((K ++ [(⟨r, .slice Ab r.body.length cb⟩ : Rk)]).map Rk.rc) q := by
              rw [List.map_append, hq]
              exact HZ.out.2.2.1.step (by have := HL.out; omega) HX2.out
            have hqn := hat5.le
            obtain ⟨s5, hs5⟩ := sl_of (part_length (l := bs) (p := q - 4) (n := 4) (by have := HL.out; omega))
            have HS5 := Lib.hid (And.intro hadd.1 (And.intro hat5 (And.intro hP5 (And.intro hrd5 (And.intro HA3.out.2.1 (And.intro hgo hs5))))))
            have hrd5' := hrd5
            rw [hs5] at hrd5'
            obtain ⟨b3, o3, rfl, hb3, hc3⟩ := hrd5'.at_ (by omega)
            have x0 : w5.cell? ⟨b3, o3, none⟩ = some (.int .u8 (s5.1.toNat : Int)) := hc3 0 _ rfl
            have x1 : w5.cell? ⟨b3, o3 + 1, none⟩ = some (.int .u8 (s5.2.1.toNat : Int)) := hc3 1 _ rfl
            have x2 : w5.cell? ⟨b3, o3 + 2, none⟩ = some (.int .u8 (s5.2.2.1.toNat : Int)) := hc3 2 _ rfl
            have x3 : w5.cell? ⟨b3, o3 + 3, none⟩ = some (.int .u8 (s5.2.2.2.toNat : Int)) := hc3 3 _ rfl
            have p0 : w5.cell? ⟨gr + 1, 0, none⟩ = some (.pointer (some ⟨gr, 0, none⟩)) := hP5.cell 0
            have k1 : w5.cell? ⟨gr, 1, none⟩ = some (.int .i64 (q : Int)) := hat5.blk.cell 1
            have k2 : w5.cell? ⟨gr, 2, none⟩ = some (.slice (some ⟨b3, o3, none⟩) 4 c3) := hat5.blk.cell 2
            have hFB := hadd.1.fb
            have y4 : w5.cell? ⟨Fb, 4, none⟩ = some (.int .i64 (p : Int)) := hFB.cell 4
            have y5 : w5.cell? ⟨Fb, 5, none⟩ = some (.int .u8 (s.1.toNat : Int)) := hFB.cell 5
            have y6 : w5.cell? ⟨Fb, 6, none⟩ = some (.int .u8 (s.2.1.toNat : Int)) := hFB.cell 6
            have y7 : w5.cell? ⟨Fb, 7, none⟩ = some (.int .u8 (s.2.2.1.toNat : Int)) := hFB.cell 7
            have y8 : w5.cell? ⟨Fb, 8, none⟩ = some (.int .u8 (s.2.2.2.toNat : Int)) := hFB.cell 8
            have f4 := hFB.frozen 4
            have f5 := hFB.frozen 5
            have f6 := hFB.frozen 6
            have f7 := hFB.frozen 7
            have f8 := hFB.frozen 8
            have hbne : b3 ≠ Fb := by have := HWR.out; omega
            have hgF : gr ≠ Fb := by omega
            have hgP : gr + 1 ≠ Fb := by omega
            have hat := at4 ⟨b3, o3, none⟩ c3
            have hqp : p < q := by omega
            clear hadd hoff how4 hg4 hat5 hP5 hrd5 hrd5' hc3 hgo hs5 hFB hq e4 hKb
            go_wp2
            go_roundw
            case rel =>
              have hput := HS5.out.1.put q s5
              refine ⟨_, q, _, s5, Lib.hid ⟨hput.1, ⟨⟨_, c3, HS5.out.2.1.chgN hput.2 (by omega) (fun k e => by have := HWR.out; omega), HS5.out.2.2.2.2.1, HS5.out.2.2.2.1.keep fun x hx => hput.2.block x (by have := HWR.out; have := HS5.out.2.1.blk.lt; omega) (by have := HWR.out; omega)⟩, HS5.out.2.2.1.chg hput.2 (by omega)⟩, HS5.out.2.2.2.2.2.1, HS5.out.2.2.2.2.2.2⟩⟩
            case measure =>
              have hput := HS5.out.1.put q s5
              have e1 := endOf_eq (hput.1.fb.cell 4)
              have e2 := HEN.out
              rw [e2]
              refine Nat.lt_of_le_of_lt (Nat.le_of_eq (congrArg (fun x => n - x) e1)) ?_
              show n - q < n - p
              omega
        · have hli : ¬ (p : Int) < (n : Int) := by omega
          have dli : decide ((p : Int) < (n : Int)) = false := by simpa using hli
          go_wp2_with fail
          go_meet
          exact ⟨K, p, v, s, Lib.hid ⟨HZ.out.1, HRD.out _ _ (HZ.out.2.2.1.done (by have := HL.out; omega)), HZ.out.2.2.2⟩⟩
    obtain ⟨K, p, v, sz, HZ⟩ := hcut
    obtain ⟨Av, cv, rfl, _, _⟩ := HZ.out.1.own.shape
    have hfb := HZ.out.1.fb
    have hrs := HZ.out.1.res
    have hcb := HZ.out.1.cb
    have HFI := Lib.hid (And.intro hfb (And.intro hrs hcb))
    have y0 : wc.cell? ⟨Fb, 0, none⟩ = some (.bool false) := hfb.cell 0
    have y1 : wc.cell? ⟨Fb, 1, none⟩ = some (.bool false) := hfb.cell 1
    have y2 : wc.cell? ⟨Fb, 2, none⟩ = some (.int .i64 (g : Int)) := hfb.cell 2
    have y3 : wc.cell? ⟨Fb, 3, none⟩ = some (.slice Av K.length cv) := hfb.cell 3
    have y4 : wc.cell? ⟨Fb, 4, none⟩ = some (.int .i64 (p : Int)) := hfb.cell 4
    have y5 : wc.cell? ⟨Fb, 5, none⟩ = some (.int .u8 (sz.1.toNat : Int)) := hfb.cell 5
    have y6 : wc.cell? ⟨Fb, 6, none⟩ = some (.int .u8 (sz.2.1.toNat : Int)) := hfb.cell 6
    have y7 : wc.cell? ⟨Fb, 7, none⟩ = some (.int .u8 (sz.2.2.1.toNat : Int)) := hfb.cell 7
    have y8 : wc.cell? ⟨Fb, 8, none⟩ = some (.int .u8 (sz.2.2.2.toNat : Int)) := hfb.cell 8
    have z0 : wc.cell? ⟨Cb, 0, none⟩ = some (.int .i64 (c : Int)) := hcb.cell 0
    have f0 := hfb.frozen 0
    have f1 := hfb.frozen 1
    unfold fcs zs4 at hrs
    have x0 : wc.cell? ⟨R, 0, none⟩ = some (.bool false) := by rw [hrs.cell]; rfl
    have x1 : wc.cell? ⟨R, 1, none⟩ = some (.bool false) := by rw [hrs.cell]; rfl
    have x2 : wc.cell? ⟨R, 2, none⟩ = some (.int .i64 0) := by rw [hrs.cell]; rfl
    have x3 : wc.cell? ⟨R, 3, none⟩ = some (.slice none 0 0) := by rw [hrs.cell]; rfl
    have x4 : wc.cell? ⟨R, 4, none⟩ = some (.int .i64 0) := by rw [hrs.cell]; rfl
    have x5 : wc.cell? ⟨R, 5, none⟩ = some (.int .u8 0) := by rw [hrs.cell]; rfl
    have x6 : wc.cell? ⟨R, 6, none⟩ = some (.int .u8 0) := by rw [hrs.cell]; rfl
    have x7 : wc.cell? ⟨R, 7, none⟩ = some (.int .u8 0) := by rw [hrs.cell]; rfl
    have x8 : wc.cell? ⟨R, 8, none⟩ = some (.int .u8 0) := by rw [hrs.cell]; rfl
    have g0 := hrs.frozen 0
    have g1 := hrs.frozen 1
    have g2 := hrs.frozen 2
    have g3 := hrs.frozen 3
    have g4 := hrs.frozen 4
    have g5 := hrs.frozen 5
    have g6 := hrs.frozen 6
    have g7 := hrs.frozen 7
    have g8 := hrs.frozen 8
    have hne : Fb ≠ R := by omega
    have hne2 : Cb ≠ Fb := by omega
    clear hfb hrs hcb
    go_wp2
    have hc1 := ((Chg.refl (fun k => k = Fb) wc).setCell (p := ⟨Fb, 0, none⟩) (.inl rfl) (.bool (decide (c ≤ K.length)))).setCell (p := ⟨Fb, 1, none⟩) (.inl rfl) (.bool ((p : Int) == (n : Int)))
    have hR1 := HZ.out.1.res.chg hc1 (by omega)
    generalize (wc.setCell ⟨Fb, 0, none⟩ (.bool (decide (c ≤ K.length)))).setCell ⟨Fb, 1, none⟩ (.bool ((p : Int) == (n : Int))) = w9 at hc1 hR1 ⊢
    have h9 := set9_blk hR1 (by rfl) (.bool (decide (c ≤ K.length))) (.bool ((p : Int) == (n : Int))) (.int .i64 (g : Int)) (.slice Av K.length cv) (.int .i64 (p : Int)) (.int .u8 (sz.1.toNat : Int)) (.int .u8 (sz.2.1.toNat : Int)) (.int .u8 (sz.2.2.1.toNat : Int)) (.int .u8 (sz.2.2.2.toNat : Int))
    have hge := HZ.out.1.ge
    refine bodyPost_ret (lookResults R _ _ _ _ _ _ _ _ _ _ _ rfl h9.1) rfl ⟨(HZ.out.1.bw.trans (hc1.to_below HZ.out.1.bw.size fun k e => by omega)).trans (h9.2.to_below (Nat.le_trans HZ.out.1.bw.size hc1.size) fun k e => by omega), ?_⟩
    rw [HZ.out.2.1]
    dsimp only
    refine ⟨.slice Av K.length cv, sz, K, ?_, HZ.out.2.2.symm, rfl, (HZ.out.1.own.chgT hc1 fun k _ ht e => ?_).chgT h9.2 fun k _ ht e => ?_⟩
    · have e1 : (Fi.sound ⟨g, c, K.map Rk.rc, p⟩) = decide (c ≤ K.length) := by simp [Fi.sound]
      have e2 : decide (p = bs.length) = ((p : Int) == (n : Int)) := by
        rw [HL.out, Bool.eq_iff_iff]
        simp only [decide_eq_true_eq, beq_iff_eq]
        omega
      rw [e1, e2]
      rfl
    · subst e
      exact ht.elim (fun h => absurd (h.eq_ HZ.out.1.fb.isT) (by decide)) (fun h => absurd (h.eq_ HZ.out.1.fb.isT) (by decide))
    · subst e
      exact ht.elim (fun h => absurd (h.eq_ hR1.isT) (by decide)) (fun h => absurd (h.eq_ hR1.isT) (by decide))
end Go.Proofs.YtpkdalpjfcopbaaDoor
