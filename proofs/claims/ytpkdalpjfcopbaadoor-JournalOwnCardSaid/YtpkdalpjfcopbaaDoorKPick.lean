/-
  The program's pick: which file counts.
-/
import Derived.Test.YtpkdalpjfcopbaaDoorKLook
namespace Go.Proofs.YtpkdalpjfcopbaaDoor
open Go.RowKit
/-- What look hands out, cell by cell. -/
structure LV where
  so : Bool
  cl : Bool
  gn : Int
  A : Option Addr
  m : Nat
  c : Nat
  fn : Int
  s : UInt8 × UInt8 × UInt8 × UInt8
def LV.cells (r : LV) : Array Value := #[.bool r.so, .bool r.cl, .int .i64 r.gn, .slice r.A r.m r.c, .int .i64 r.fn, .int .u8 (r.s.1.toNat : Int), .int .u8 (r.s.2.1.toNat : Int), .int .u8 (r.s.2.2.1.toNat : Int), .int .u8 (r.s.2.2.2.toNat : Int)]
def LV.val (r : LV) : Value := .agg #[.bool r.so, .bool r.cl, .int .i64 r.gn, .slice r.A r.m r.c, .int .i64 r.fn, .int .u8 (r.s.1.toNat : Int), .int .u8 (r.s.2.1.toNat : Int), .int .u8 (r.s.2.2.1.toNat : Int), .int .u8 (r.s.2.2.2.toNat : Int)]
def LV.zero : LV := ⟨false, false, 0, none, 0, 0, 0, zs4⟩
/-- It is what the bytes tell. -/
def LkV (w : World) (base : Nat) (bs : List UInt8) (r : LV) : Prop :=
  match readR bs with
  | none => r = LV.zero
  | some f => r.so = f.sound ∧ r.cl = decide (f.fin = bs.length) ∧ r.gn = (f.gen : Int) ∧ r.fn = (f.fin : Int) ∧ sl r.s = part bs (f.fin - 4) 4 ∧ ∃ K, K.map Rk.rc = f.recs ∧ r.m = K.length ∧ RcOwn w base (.slice r.A r.m r.c) K
section
variable {w w' wx : World} {base base' : Nat} {bs : List UInt8} {r : LV} {S : Nat → Prop}
theorem LkV.chgT (h : LkV w base bs r) (hc : Chg S w w') (hS : ∀ g, base ≤ g → (IsT w 34 g ∨ IsT w 5 g) → ¬ S g) : LkV w' base bs r := by
  unfold LkV at h ⊢
  split
  · rename_i e
    rw [e] at h
    exact h
  · rename_i f e
    rw [e] at h
    obtain ⟨h1, h2, h3, h4, h5, K, h6, h7, h8⟩ := h
    exact ⟨h1, h2, h3, h4, h5, K, h6, h7, h8.chgT hc hS⟩
theorem LkV.below (h : LkV w base bs r) (hb : Below w.heap.size w w') : LkV w' base bs r := h.chgT (Chg.of_below hb (fun _ => False)) fun _ _ _ h => h
theorem LkV.mono (h : LkV w base bs r) (hb : base' ≤ base) : LkV w base' bs r := by
  unfold LkV at h ⊢
  split
  · rename_i e
    rw [e] at h
    exact h
  · rename_i f e
    rw [e] at h
    obtain ⟨h1, h2, h3, h4, h5, K, h6, h7, h8⟩ := h
    exact ⟨h1, h2, h3, h4, h5, K, h6, h7, h8.mono hb⟩
end
theorem look_v {w : World} {n cap : Nat} {A : Option Addr} {bs : List UInt8} (hr : RdB w w.heap.size A n bs) (hn : n ≤ cap) (hc : cap ≤ 9223372036854775807) (ht : Nibs w) :
    Calls Tryd.prog 70 #[.slice A n cap] w fun e w' => ∃ r : LV, e = .returned r.val ∧ LkV w' w.heap.size bs r ∧ Below w.heap.size w w' := by
  refine (look_any hr hn hc ht).mono fun e w' ⟨hb, h⟩ => ?_
  cases hx : readR bs with
  | none =>
    rw [hx] at h
    refine ⟨LV.zero, by rw [h]; rfl, ?_, hb⟩
    unfold LkV
    rw [hx]
  | some f =>
    rw [hx] at h
    obtain ⟨v, s, K, h1, h2, h3, h4⟩ := h
    obtain ⟨Av, cv, rfl, _, _⟩ := h4.shape
    refine ⟨⟨f.sound, decide (f.fin = bs.length), (f.gen : Int), Av, K.length, cv, (f.fin : Int), s⟩, by rw [h1]; rfl, ?_, hb⟩
    unfold LkV
    rw [hx]
    exact ⟨rfl, rfl, rfl, rfl, h2, K, h3, rfl, h4⟩
/-- pick's first region under way. -/
structure PkS (w : World) (f : Fls) (v0 v1 : Value) (a b : Option LV) (qa qb : Option Nat) (sa sb : Bool) (wx : World) : Prop where
  bw : Below w.heap.size w wx
  box : Blk wx w.heap.size 24 #[v0, v1]
  res : Blk wx (w.heap.size + 1) 87 LV.zero.cells
  la : ∀ r, a = some r → LkV wx w.heap.size f.a r
  lb : ∀ r, b = some r → LkV wx w.heap.size f.b r
  na : ∀ q, qa = some q → w.heap.size + 2 ≤ q ∧ ∃ r : LV, (if sa = true then a = some r else r = LV.zero) ∧ Blk wx q 87 r.cells
  nb : ∀ q, qb = some q → w.heap.size + 2 ≤ q ∧ ∃ r : LV, (if sb = true then b = some r else r = LV.zero) ∧ Blk wx q 87 r.cells
  ne : ∀ q q', qa = some q → qb = some q' → q ≠ q'
section
variable {w wx w' : World} {f : Fls} {v0 v1 : Value} {a b : Option LV} {qa qb : Option Nat} {sa sb : Bool} {r : LV} {q q' : Nat}
theorem PkS.over (h : PkS w f v0 v1 a b qa qb sa sb wx) (hb : Below wx.heap.size wx w') : PkS w f v0 v1 a b qa qb sa sb w' :=
  ⟨h.bw.trans (hb.mono h.bw.size), h.box.over hb, h.res.over hb, fun r e => (h.la r e).below hb, fun r e => (h.lb r e).below hb, fun q e => ⟨(h.na q e).1, let ⟨r, h1, h2⟩ := (h.na q e).2; ⟨r, h1, h2.over hb⟩⟩, fun q e => ⟨(h.nb q e).1, let ⟨r, h1, h2⟩ := (h.nb q e).2; ⟨r, h1, h2.over hb⟩⟩, h.ne⟩
theorem PkS.lookA (h : PkS w f v0 v1 none b qa qb false sb wx) (hb : Below wx.heap.size wx w') (hv : LkV w' wx.heap.size f.a r) : PkS w f v0 v1 (some r) b qa qb false sb w' := by
  have h1 := h.over hb
  exact ⟨h1.bw, h1.box, h1.res, fun r' e => by injection e with e; subst e; exact hv.mono h.bw.size, h1.lb, h1.na, h1.nb, h1.ne⟩
theorem PkS.lookB (h : PkS w f v0 v1 a none qa qb sa false wx) (hb : Below wx.heap.size wx w') (hv : LkV w' wx.heap.size f.b r) : PkS w f v0 v1 a (some r) qa qb sa false w' := by
  have h1 := h.over hb
  exact ⟨h1.bw, h1.box, h1.res, h1.la, fun r' e => by injection e with e; subst e; exact hv.mono h.bw.size, h1.na, h1.nb, h1.ne⟩
theorem blk_lt2 (h : PkS w f v0 v1 a b qa qb sa sb wx) : w.heap.size + 2 ≤ wx.heap.size := h.res.lt
theorem PkS.newA (h : PkS w f v0 v1 a b none qb false sb wx) : PkS w f v0 v1 a b (some wx.heap.size) qb false sb (wx.alloc (.cells #[.bool false, .bool false, .int .i64 0, .slice none 0 0, .int .i64 0, .int .u8 0, .int .u8 0, .int .u8 0, .int .u8 0] 87)) := by
  have h1 := h.over (one_box' wx (.cells #[.bool false, .bool false, .int .i64 0, .slice none 0 0, .int .i64 0, .int .u8 0, .int .u8 0, .int .u8 0, .int .u8 0] 87))
  refine ⟨h1.bw, h1.box, h1.res, h1.la, h1.lb, fun q e => ?_, h1.nb, fun q q' e e' => ?_⟩
  · injection e with e
    subst e
    exact ⟨blk_lt2 h, LV.zero, by simp, Blk.new _ _ _⟩
  · injection e with e
    obtain ⟨r, _, hB⟩ := (h.nb q' e').2
    have := hB.lt
    omega
theorem PkS.newB (h : PkS w f v0 v1 a b qa none sa false wx) : PkS w f v0 v1 a b qa (some wx.heap.size) sa false (wx.alloc (.cells #[.bool false, .bool false, .int .i64 0, .slice none 0 0, .int .i64 0, .int .u8 0, .int .u8 0, .int .u8 0, .int .u8 0] 87)) := by
  have h1 := h.over (one_box' wx (.cells #[.bool false, .bool false, .int .i64 0, .slice none 0 0, .int .i64 0, .int .u8 0, .int .u8 0, .int .u8 0, .int .u8 0] 87))
  refine ⟨h1.bw, h1.box, h1.res, h1.la, h1.lb, h1.na, fun q e => ?_, fun q q' e e' => ?_⟩
  · injection e with e
    subst e
    exact ⟨blk_lt2 h, LV.zero, by simp, Blk.new _ _ _⟩
  · injection e' with e'
    obtain ⟨r, _, hB⟩ := (h.na q e).2
    have := hB.lt
    omega
theorem PkS.held (h : PkS w f v0 v1 a b qa qb sa sb wx) : wx.cell? ⟨w.heap.size, 0, none⟩ = some v0 ∧ wx.cell? ⟨w.heap.size, 1, none⟩ = some v1 := ⟨h.box.cell 0, h.box.cell 1⟩
theorem lv_cells {w : World} {q : Nat} {r : LV} (h : Blk w q 87 r.cells) : (w.cell? ⟨q, 0, none⟩ = some (.bool r.so) ∧ w.cell? ⟨q, 1, none⟩ = some (.bool r.cl) ∧ w.cell? ⟨q, 2, none⟩ = some (.int .i64 r.gn) ∧ w.cell? ⟨q, 3, none⟩ = some (.slice r.A r.m r.c) ∧ w.cell? ⟨q, 4, none⟩ = some (.int .i64 r.fn) ∧ w.cell? ⟨q, 5, none⟩ = some (.int .u8 (r.s.1.toNat : Int)) ∧ w.cell? ⟨q, 6, none⟩ = some (.int .u8 (r.s.2.1.toNat : Int)) ∧ w.cell? ⟨q, 7, none⟩ = some (.int .u8 (r.s.2.2.1.toNat : Int)) ∧ w.cell? ⟨q, 8, none⟩ = some (.int .u8 (r.s.2.2.2.toNat : Int))) ∧
    (w.frozen? ⟨q, 0, none⟩ = false ∧ w.frozen? ⟨q, 1, none⟩ = false ∧ w.frozen? ⟨q, 2, none⟩ = false ∧ w.frozen? ⟨q, 3, none⟩ = false ∧ w.frozen? ⟨q, 4, none⟩ = false ∧ w.frozen? ⟨q, 5, none⟩ = false ∧ w.frozen? ⟨q, 6, none⟩ = false ∧ w.frozen? ⟨q, 7, none⟩ = false ∧ w.frozen? ⟨q, 8, none⟩ = false) :=
  ⟨⟨h.cell 0, h.cell 1, h.cell 2, h.cell 3, h.cell 4, h.cell 5, h.cell 6, h.cell 7, h.cell 8⟩, h.frozen 0, h.frozen 1, h.frozen 2, h.frozen 3, h.frozen 4, h.frozen 5, h.frozen 6, h.frozen 7, h.frozen 8⟩
def nine (w : World) (q : Nat) (r : LV) : World := (((((((((w.setCell ⟨q, 0, none⟩ (.bool r.so)).setCell ⟨q, 1, none⟩ (.bool r.cl)).setCell ⟨q, 2, none⟩ (.int .i64 r.gn)).setCell ⟨q, 3, none⟩ (.slice r.A r.m r.c)).setCell ⟨q, 4, none⟩ (.int .i64 r.fn)).setCell ⟨q, 5, none⟩ (.int .u8 (r.s.1.toNat : Int))).setCell ⟨q, 6, none⟩ (.int .u8 (r.s.2.1.toNat : Int))).setCell ⟨q, 7, none⟩ (.int .u8 (r.s.2.2.1.toNat : Int))).setCell ⟨q, 8, none⟩ (.int .u8 (r.s.2.2.2.toNat : Int)))
theorem nine_blk {w : World} {q t : Nat} {r0 : LV} (h : Blk w q t r0.cells) (r : LV) : Blk (nine w q r) q t r.cells ∧ Chg (fun k => k = q) w (nine w q r) :=
  set9_blk h rfl _ _ _ _ _ _ _ _ _
theorem PkS.cellsA (h : PkS w f v0 v1 a b (some q) qb false sb wx) : (wx.cell? ⟨q, 0, none⟩ = some (.bool false) ∧ wx.cell? ⟨q, 1, none⟩ = some (.bool false) ∧ wx.cell? ⟨q, 2, none⟩ = some (.int .i64 0) ∧ wx.cell? ⟨q, 3, none⟩ = some (.slice none 0 0) ∧ wx.cell? ⟨q, 4, none⟩ = some (.int .i64 0) ∧ wx.cell? ⟨q, 5, none⟩ = some (.int .u8 0) ∧ wx.cell? ⟨q, 6, none⟩ = some (.int .u8 0) ∧ wx.cell? ⟨q, 7, none⟩ = some (.int .u8 0) ∧ wx.cell? ⟨q, 8, none⟩ = some (.int .u8 0)) ∧
    (wx.frozen? ⟨q, 0, none⟩ = false ∧ wx.frozen? ⟨q, 1, none⟩ = false ∧ wx.frozen? ⟨q, 2, none⟩ = false ∧ wx.frozen? ⟨q, 3, none⟩ = false ∧ wx.frozen? ⟨q, 4, none⟩ = false ∧ wx.frozen? ⟨q, 5, none⟩ = false ∧ wx.frozen? ⟨q, 6, none⟩ = false ∧ wx.frozen? ⟨q, 7, none⟩ = false ∧ wx.frozen? ⟨q, 8, none⟩ = false) := by
  obtain ⟨_, r, hr, hB⟩ := h.na q rfl
  simp only [Bool.false_eq_true, if_false] at hr
  subst hr
  exact lv_cells hB
theorem PkS.cellsB (h : PkS w f v0 v1 a b qa (some q) sa false wx) : (wx.cell? ⟨q, 0, none⟩ = some (.bool false) ∧ wx.cell? ⟨q, 1, none⟩ = some (.bool false) ∧ wx.cell? ⟨q, 2, none⟩ = some (.int .i64 0) ∧ wx.cell? ⟨q, 3, none⟩ = some (.slice none 0 0) ∧ wx.cell? ⟨q, 4, none⟩ = some (.int .i64 0) ∧ wx.cell? ⟨q, 5, none⟩ = some (.int .u8 0) ∧ wx.cell? ⟨q, 6, none⟩ = some (.int .u8 0) ∧ wx.cell? ⟨q, 7, none⟩ = some (.int .u8 0) ∧ wx.cell? ⟨q, 8, none⟩ = some (.int .u8 0)) ∧
    (wx.frozen? ⟨q, 0, none⟩ = false ∧ wx.frozen? ⟨q, 1, none⟩ = false ∧ wx.frozen? ⟨q, 2, none⟩ = false ∧ wx.frozen? ⟨q, 3, none⟩ = false ∧ wx.frozen? ⟨q, 4, none⟩ = false ∧ wx.frozen? ⟨q, 5, none⟩ = false ∧ wx.frozen? ⟨q, 6, none⟩ = false ∧ wx.frozen? ⟨q, 7, none⟩ = false ∧ wx.frozen? ⟨q, 8, none⟩ = false) := by
  obtain ⟨_, r, hr, hB⟩ := h.nb q rfl
  simp only [Bool.false_eq_true, if_false] at hr
  subst hr
  exact lv_cells hB
theorem PkS.putA (h : PkS w f v0 v1 (some r) b (some q) (some q') false sb wx) : PkS w f v0 v1 (some r) b (some q) (some q') true sb (nine wx q r) := by
  obtain ⟨hq, r0, _, hB⟩ := h.na q rfl
  obtain ⟨h1, hc⟩ := nine_blk hB r
  have hne := h.ne q q' rfl rfl
  have off : ∀ g, (IsT wx 34 g ∨ IsT wx 5 g) → ¬ g = q := fun g ht e => by
    subst e
    exact ht.elim (fun h => absurd (h.eq_ hB.isT) (by decide)) (fun h => absurd (h.eq_ hB.isT) (by decide))
  refine ⟨h.bw.trans (hc.to_below h.bw.size fun k e => by omega), h.box.chg hc (by omega), h.res.chg hc (by omega), fun r' e => (h.la r' e).chgT hc fun g _ => off g, fun r' e => (h.lb r' e).chgT hc fun g _ => off g, fun x e => ?_, fun x e => ?_, h.ne⟩
  · injection e with e
    subst e
    exact ⟨hq, r, by simp, h1⟩
  · injection e with e
    subst e
    obtain ⟨hq', r', hr', hB'⟩ := h.nb q' rfl
    exact ⟨hq', r', hr', hB'.chg hc (Ne.symm hne)⟩
theorem PkS.putB (h : PkS w f v0 v1 a (some r) (some q) (some q') sa false wx) : PkS w f v0 v1 a (some r) (some q) (some q') sa true (nine wx q' r) := by
  obtain ⟨hq, r0, _, hB⟩ := h.nb q' rfl
  obtain ⟨h1, hc⟩ := nine_blk hB r
  have hne := h.ne q q' rfl rfl
  have off : ∀ g, (IsT wx 34 g ∨ IsT wx 5 g) → ¬ g = q' := fun g ht e => by
    subst e
    exact ht.elim (fun h => absurd (h.eq_ hB.isT) (by decide)) (fun h => absurd (h.eq_ hB.isT) (by decide))
  refine ⟨h.bw.trans (hc.to_below h.bw.size fun k e => by omega), h.box.chg hc (by omega), h.res.chg hc (by omega), fun r' e => (h.la r' e).chgT hc fun g _ => off g, fun r' e => (h.lb r' e).chgT hc fun g _ => off g, fun x e => ?_, fun x e => ?_, h.ne⟩
  · injection e with e
    subst e
    obtain ⟨hq', r', hr', hB'⟩ := h.na q rfl
    exact ⟨hq', r', hr', hB'.chg hc hne⟩
  · injection e with e
    subst e
    exact ⟨hq, r, by simp, h1⟩
end
theorem LkV.snd {w : World} {base : Nat} {bs : List UInt8} {r : LV} (h : LkV w base bs r) : (r.so = true → ∃ x, soundR bs = some x ∧ r.gn = (x.gen : Int) ∧ readR bs = some x) ∧ (r.so = false → soundR bs = none) := by
  unfold LkV at h
  unfold soundR
  cases hx : readR bs with
  | none =>
    rw [hx] at h
    subst h
    exact ⟨fun h => (by cases h), fun _ => rfl⟩
  | some x =>
    rw [hx] at h
    obtain ⟨h1, h2, h3, h4⟩ := h
    refine ⟨fun h => ⟨x, ?_, h3, rfl⟩, fun h => ?_⟩
    · rw [h1] at h
      simp [Option.filter, h]
    · rw [h1] at h
      simp [Option.filter, h]
/-- What pick comes to. -/
def Picked (w : World) (f : Fls) (e : Ending) (w' : World) : Prop :=
  Below w.heap.size w w' ∧ match pickR f with
    | none => e = .returned (.tuple #[.int .i64 (-1), LV.zero.val])
    | some (k, x) => ∃ r : LV, e = .returned (.tuple #[.int .i64 (k : Int), r.val]) ∧ LkV w' w.heap.size (f.nth k) r ∧ readR (f.nth k) = some x
theorem picked_0 {w w' : World} {f : Fls} {ra rb : LV} (hb : Below w.heap.size w w') (ha : LkV w' w.heap.size f.a ra) (hbb : LkV w' w.heap.size f.b rb) (h1 : ra.so = true) (h2 : rb.so = false ∨ ¬ ra.gn < rb.gn) : Picked w f (.returned (.tuple #[.int .i64 0, ra.val])) w' := by
  refine ⟨hb, ?_⟩
  obtain ⟨x, hx, hg, hr⟩ := ha.snd.1 h1
  have hp : pickR f = some (0, x) := by
    unfold pickR
    rw [hx]
    cases h3 : rb.so with
    | false => rw [hbb.snd.2 h3]
    | true =>
      obtain ⟨y, hy, hg2, _⟩ := hbb.snd.1 h3
      rw [hy]
      dsimp only
      rw [if_neg]
      intro hlt
      rcases h2 with h2 | h2
      · rw [h3] at h2; cases h2
      · apply h2; rw [hg, hg2]; omega
  rw [hp]
  exact ⟨ra, rfl, ha, hr⟩
theorem picked_1 {w w' : World} {f : Fls} {ra rb : LV} (hb : Below w.heap.size w w') (ha : LkV w' w.heap.size f.a ra) (hbb : LkV w' w.heap.size f.b rb) (h1 : rb.so = true) (h2 : ra.so = false ∨ ra.gn < rb.gn) : Picked w f (.returned (.tuple #[.int .i64 1, rb.val])) w' := by
  refine ⟨hb, ?_⟩
  obtain ⟨y, hy, hg, hr⟩ := hbb.snd.1 h1
  have hp : pickR f = some (1, y) := by
    unfold pickR
    rw [hy]
    cases h3 : ra.so with
    | false => rw [ha.snd.2 h3]
    | true =>
      obtain ⟨x, hx, hg2, _⟩ := ha.snd.1 h3
      rw [hx]
      dsimp only
      rw [if_pos]
      rcases h2 with h2 | h2
      · rw [h3] at h2; cases h2
      · rw [hg, hg2] at h2; omega
  rw [hp]
  exact ⟨rb, rfl, hbb, hr⟩
theorem picked_n {w w' : World} {f : Fls} {ra rb : LV} (hb : Below w.heap.size w w') (ha : LkV w' w.heap.size f.a ra) (hbb : LkV w' w.heap.size f.b rb) (h1 : ra.so = false) (h2 : rb.so = false) : Picked w f (.returned (.tuple #[.int .i64 (-1), LV.zero.val])) w' := by
  refine ⟨hb, ?_⟩
  unfold pickR
  rw [ha.snd.2 h1, hbb.snd.2 h2]
theorem pickResults (k : Int) (t3 : Nat) (tmps : Array Value) (w : World) (r : LV) (h2 : tmps.getD 2 undef = .int .i64 k) (h3 : tmps.getD 3 undef = .pointer (some ⟨t3, 0, none⟩)) (hp : Blk w t3 87 r.cells) :
    (results Tryd.f46 tmps).run Tryd.prog w = .ok (.tuple #[.int .i64 k, r.val]) w := by
  obtain ⟨⟨c0, c1, c2, c3, c4, c5, c6, c7, c8⟩, _⟩ := lv_cells hp
  simp only [results]
  rw [show Tryd.f46.results = #[.tmp 2, .cell 3 87] from rfl]
  rw [Array.getD_eq_getD_getElem?] at h2 h3
  simp [h2, h3, c0, c1, c2, c3, c4, c5, c6, c7, c8, go_sem, LV.val]
set_option maxRecDepth 100000 in
set_option maxHeartbeats 3200000 in
theorem pick_any {w : World} {f : Fls} {A0 A1 : Option Addr} {c0 c1 : Nat} (h0 : RdB w w.heap.size A0 f.a.length f.a) (h1 : RdB w w.heap.size A1 f.b.length f.b) (n0 : f.a.length ≤ c0) (n1 : f.b.length ≤ c1) (m0 : c0 ≤ 9223372036854775807) (m1 : c1 ≤ 9223372036854775807) (ht : Nibs w) :
    Calls Tryd.prog 46 #[.agg #[.slice A0 f.a.length c0, .slice A1 f.b.length c1]] w (Picked w f) := by
  obtain ⟨w1, hw1⟩ : ∃ x, x = w.alloc (.cells #[.slice A0 f.a.length c0, .slice A1 f.b.length c1] 24) := ⟨_, rfl⟩
  have hb1 : Below w.heap.size w w1 := by rw [hw1]; exact one_box' _ _
  have hB1 : Blk w1 w.heap.size 24 #[.slice A0 f.a.length c0, .slice A1 f.b.length c1] := by rw [hw1]; exact Blk.new _ _ _
  have hz1 : w1.heap.size = w.heap.size + 1 := by rw [hw1]; simp
  obtain ⟨w2, hw2⟩ : ∃ x, x = w1.alloc (.cells #[.bool false, .bool false, .int .i64 0, .slice none 0 0, .int .i64 0, .int .u8 0, .int .u8 0, .int .u8 0, .int .u8 0] 87) := ⟨_, rfl⟩
  have hb2 : Below w1.heap.size w1 w2 := by rw [hw2]; exact one_box' _ _
  have hB2 : Blk w2 w1.heap.size 87 LV.zero.cells := by rw [hw2]; exact Blk.new _ _ _
  rw [hz1] at hB2
  have HS2 : Hid (PkS w f (.slice A0 f.a.length c0) (.slice A1 f.b.length c1) none none none none false false w2) := Lib.hid ⟨Below.then hb1 hb2, hB1.over hb2, hB2, fun r e => (by cases e), fun r e => (by cases e), fun r e => (by cases e), fun r e => (by cases e), fun q q' e => (by cases e)⟩
  have HLA : Hid (∀ W, Below w.heap.size w W → Calls Tryd.prog 70 #[.slice A0 f.a.length c0] W fun e w' => ∃ r : LV, e = .returned r.val ∧ LkV w' W.heap.size f.a r ∧ Below W.heap.size W w') := Lib.hid fun W hb => look_v ((h0.below hb).more hb.size) n0 m0 (ht.below hb)
  have HLB : Hid (∀ W, Below w.heap.size w W → Calls Tryd.prog 70 #[.slice A1 f.b.length c1] W fun e w' => ∃ r : LV, e = .returned r.val ∧ LkV w' W.heap.size f.b r ∧ Below W.heap.size W w') := Lib.hid fun W hb => look_v ((h1.below hb).more hb.size) n1 m1 (ht.below hb)
  have HW := Lib.hid (And.intro hw1 (And.intro hw2 hz1))
  clear hw1 hb1 hB1 hz1 hw2 hb2 hB2 h0 h1 n0 n1 m0 m1 ht
  go_enter Tryd.func46, Tryd.ntmps46
  go_upto_region 1 with fail
  rw [← HW.out.1, ← HW.out.2.1]
  go_cut [4, 5] from 6 to 11 (fun x y wc => ∃ (qa qb : Nat) (ra rb : LV), x = .pointer (some ⟨qa, 0, none⟩) ∧ y = .pointer (some ⟨qb, 0, none⟩) ∧ Hid (PkS w f (.slice A0 f.a.length c0) (.slice A1 f.b.length c1) (some ra) (some rb) (some qa) (some qb) true true wc))
  case first =>
    obtain ⟨wd, hwd⟩ : ∃ wd, wd = w2.drew := ⟨_, rfl⟩
    have HS0 : Hid (PkS w f (.slice A0 f.a.length c0) (.slice A1 f.b.length c1) none none none none false false wd) := Lib.hid (by rw [hwd]; exact HS2.out.over (below_drewN (Below.refl _ w2) 1))
    have HWD := Lib.hid hwd
    clear hwd HS2
    refine wp_region_held_drew (S := fun W => W.cell? ⟨w.heap.size, 0, none⟩ = some (.slice A0 f.a.length c0) ∧ W.cell? ⟨w.heap.size, 1, none⟩ = some (.slice A1 f.b.length c1)) (by kernel_rfl) (by rw [← HWD.out]; exact HS0.out.held) (fun hsw => ?_)
    rw [← HWD.out] at hsw ⊢
    clear HWD
    refine wpAnyH_take (i := 0) (oi := ?oi0a0) (v := ?v0a0) ?hi0a0 (by kernel_rfl) (by kernel_rfl) (by kernel_rfl) ?hq0a0 ?hy0a0 (by assumption) ?rest0a0
    case hi0a0 => (simp only [List.getElem?_toArray, List.getElem?_cons_zero]; rfl)
    case hy0a0 => (refine Or.inl ⟨by rfl, ?_⟩; intro w hSw; (try dsimp only at hSw); go_simp; try with_reducible rfl)
    case hq0a0 => exact fun _ _ _ h => h
    try simp only [Act.put, List.setIfInBounds_toArray, List.set_cons_zero, List.set_cons_succ]
    refine wpAnyH_take (i := 1) (oi := ?oi1a0) (v := ?v1a0) ?hi1a0 (by kernel_rfl) (by kernel_rfl) (by kernel_rfl) ?hq1a0 ?hy1a0 (by assumption) ?rest1a0
    case hi1a0 => (simp only [List.getElem?_toArray, List.getElem?_cons_zero, List.getElem?_cons_succ]; rfl)
    case hy1a0 => (refine Or.inl ⟨by rfl, ?_⟩; intro w hSw; (try dsimp only at hSw); go_simp; try with_reducible rfl)
    case hq1a0 => exact fun _ _ _ h => h
    try simp only [Act.put, List.setIfInBounds_toArray, List.set_cons_zero, List.set_cons_succ]
    refine wpAnyH_take (i := 3) (oi := ?oi3a0) (v := ?v3a0) ?hi3a0 (by kernel_rfl) (by kernel_rfl) (by kernel_rfl) ?hq3a0 ?hy3a0 (by assumption) ?rest3a0
    case hi3a0 => (simp only [List.getElem?_toArray, List.getElem?_cons_zero, List.getElem?_cons_succ]; rfl)
    case hy3a0 => (refine Or.inl ⟨by rfl, ?_⟩; intro w hSw; (try dsimp only at hSw); go_simp; try with_reducible rfl)
    case hq3a0 => exact fun _ _ _ h => h
    try simp only [Act.put, List.setIfInBounds_toArray, List.set_cons_zero, List.set_cons_succ]
    refine wpAnyH_take (i := 4) (oi := ?oi4a0) (v := ?v4a0) ?hi4a0 (by kernel_rfl) (by kernel_rfl) (by kernel_rfl) ?hq4a0 ?hy4a0 (by assumption) ?rest4a0
    case hi4a0 => (simp only [List.getElem?_toArray, List.getElem?_cons_zero, List.getElem?_cons_succ]; rfl)
    case hy4a0 => (refine Or.inl ⟨by rfl, ?_⟩; intro w hSw; (try dsimp only at hSw); go_simp; try with_reducible rfl)
    case hq4a0 => exact fun _ _ _ h => h
    try simp only [Act.put, List.setIfInBounds_toArray, List.set_cons_zero, List.set_cons_succ]
-- ORDERS
    refine wpAnyH_ready (rs := [2, 6, 7]) (by kernel_rfl) (by simp) ?_
    refine AllReadyH.cons (o := ?o2q1) ?ho2q1 (fun K hK => ?st2q1) ?mo2q1
    case ho2q1 => (simp only [List.getElem?_toArray, List.getElem?_cons_zero, List.getElem?_cons_succ]; rfl)
    · skip
      go_simp
      refine (HLA.out _ HS0.out.bw).mono ?_
      rintro _ wq1 ⟨rA, rfl, hv, hb⟩
      have Hq1 := Lib.hid (HS0.out.lookA hb hv)
      clear hv hb
      refine hK.out _ _ Hq1.out.held (fun _ => ?_)
      clear hK K
      try simp only [Act.put, List.setIfInBounds_toArray, List.set_cons_zero, List.set_cons_succ]
      refine wpAnyH_ready (rs := [5, 6, 7]) (by kernel_rfl) (by simp) ?_
      refine AllReadyH.cons (o := ?o5q2) ?ho5q2 (fun K hK => ?st5q2) ?mo5q2
      case ho5q2 => (simp only [List.getElem?_toArray, List.getElem?_cons_zero, List.getElem?_cons_succ]; rfl)
      · skip
        go_simp
        refine (HLB.out _ Hq1.out.bw).mono ?_
        rintro _ wq2 ⟨rB, rfl, hv, hb⟩
        have Hq2 := Lib.hid (Hq1.out.lookB hb hv)
        clear hv hb
        refine hK.out _ _ Hq2.out.held (fun _ => ?_)
        clear hK K
        try simp only [Act.put, List.setIfInBounds_toArray, List.set_cons_zero, List.set_cons_succ]
        refine wpAnyH_ready (rs := [6, 7]) (by kernel_rfl) (by simp) ?_
        refine AllReadyH.cons (o := ?o6q3) ?ho6q3 (fun K hK => ?st6q3) ?mo6q3
        case ho6q3 => (simp only [List.getElem?_toArray, List.getElem?_cons_zero, List.getElem?_cons_succ]; rfl)
        · skip
          go_simp
          have Hq3 := Lib.hid Hq2.out.newA
          obtain ⟨wq3, hwq3⟩ : ∃ x, x = wq2.alloc (.cells #[.bool false, .bool false, .int .i64 0, .slice none 0 0, .int .i64 0, .int .u8 0, .int .u8 0, .int .u8 0, .int .u8 0] 87) := ⟨_, rfl⟩
          rw [← hwq3] at Hq3 ⊢
          clear hwq3
          refine hK.out _ _ Hq3.out.held (fun _ => ?_)
          clear hK K
          try simp only [Act.put, List.setIfInBounds_toArray, List.set_cons_zero, List.set_cons_succ]
          refine wpAnyH_ready (rs := [7]) (by kernel_rfl) (by simp) ?_
          refine AllReadyH.cons (o := ?o7q4) ?ho7q4 (fun K hK => ?st7q4) ?mo7q4
          case ho7q4 => (simp only [List.getElem?_toArray, List.getElem?_cons_zero, List.getElem?_cons_succ]; rfl)
          · skip
            go_simp
            have Hq4 := Lib.hid Hq3.out.newB
            obtain ⟨wq4, hwq4⟩ : ∃ x, x = wq3.alloc (.cells #[.bool false, .bool false, .int .i64 0, .slice none 0 0, .int .i64 0, .int .u8 0, .int .u8 0, .int .u8 0, .int .u8 0] 87) := ⟨_, rfl⟩
            rw [← hwq4] at Hq4 ⊢
            clear hwq4
            refine hK.out _ _ Hq4.out.held (fun _ => ?_)
            clear hK K
            try simp only [Act.put, List.setIfInBounds_toArray, List.set_cons_zero, List.set_cons_succ]
            refine wpAnyH_ready (rs := [8]) (by kernel_rfl) (by simp) ?_
            refine AllReadyH.cons (o := ?o8q5) ?ho8q5 (fun K hK => ?st8q5) ?mo8q5
            case ho8q5 => (simp only [List.getElem?_toArray, List.getElem?_cons_zero, List.getElem?_cons_succ]; rfl)
            · skip
              have hq := Hq4.out.cellsA
              obtain ⟨x0, x1, x2, x3, x4, x5, x6, x7, x8⟩ := hq.1
              obtain ⟨y0, y1, y2, y3, y4, y5, y6, y7, y8⟩ := hq.2
              clear hq
              try unfold LV.val
              go_simp
              have Hq5 := Lib.hid Hq4.out.putA
              unfold nine at Hq5
              clear x0 x1 x2 x3 x4 x5 x6 x7 x8 y0 y1 y2 y3 y4 y5 y6 y7 y8
              generalize World.setCell _ _ _ = wq5 at Hq5 ⊢
              refine hK.out _ _ Hq5.out.held (fun _ => ?_)
              clear hK K
              try simp only [Act.put, List.setIfInBounds_toArray, List.set_cons_zero, List.set_cons_succ]
              refine wpAnyH_ready (rs := [9]) (by kernel_rfl) (by simp) ?_
              refine AllReadyH.cons (o := ?o9q6) ?ho9q6 (fun K hK => ?st9q6) ?mo9q6
              case ho9q6 => (simp only [List.getElem?_toArray, List.getElem?_cons_zero, List.getElem?_cons_succ]; rfl)
              · skip
                have hq := Hq5.out.cellsB
                obtain ⟨x0, x1, x2, x3, x4, x5, x6, x7, x8⟩ := hq.1
                obtain ⟨y0, y1, y2, y3, y4, y5, y6, y7, y8⟩ := hq.2
                clear hq
                try unfold LV.val
                go_simp
                have Hq6 := Lib.hid Hq5.out.putB
                unfold nine at Hq6
                clear x0 x1 x2 x3 x4 x5 x6 x7 x8 y0 y1 y2 y3 y4 y5 y6 y7 y8
                generalize World.setCell _ _ _ = wq6 at Hq6 ⊢
                refine hK.out _ _ Hq6.out.held (fun _ => ?_)
                clear hK K
                try simp only [Act.put, List.setIfInBounds_toArray, List.set_cons_zero, List.set_cons_succ]
                refine wpAnyH_done (by kernel_rfl) ?_ _
                go_wp2_with fail
                go_meet
                exact ⟨_, _, rA, rB, rfl, rfl, Hq6⟩
              exact AllReadyH.nil
            exact AllReadyH.nil
          exact AllReadyH.nil
        refine AllReadyH.cons (o := ?o7q7) ?ho7q7 (fun K hK => ?st7q7) ?mo7q7
        case ho7q7 => (simp only [List.getElem?_toArray, List.getElem?_cons_zero, List.getElem?_cons_succ]; rfl)
        · skip
          go_simp
          have Hq7 := Lib.hid Hq2.out.newB
          obtain ⟨wq7, hwq7⟩ : ∃ x, x = wq2.alloc (.cells #[.bool false, .bool false, .int .i64 0, .slice none 0 0, .int .i64 0, .int .u8 0, .int .u8 0, .int .u8 0, .int .u8 0] 87) := ⟨_, rfl⟩
          rw [← hwq7] at Hq7 ⊢
          clear hwq7
          refine hK.out _ _ Hq7.out.held (fun _ => ?_)
          clear hK K
          try simp only [Act.put, List.setIfInBounds_toArray, List.set_cons_zero, List.set_cons_succ]
          refine wpAnyH_ready (rs := [6]) (by kernel_rfl) (by simp) ?_
          refine AllReadyH.cons (o := ?o6q8) ?ho6q8 (fun K hK => ?st6q8) ?mo6q8
          case ho6q8 => (simp only [List.getElem?_toArray, List.getElem?_cons_zero, List.getElem?_cons_succ]; rfl)
          · skip
            go_simp
            have Hq8 := Lib.hid Hq7.out.newA
            obtain ⟨wq8, hwq8⟩ : ∃ x, x = wq7.alloc (.cells #[.bool false, .bool false, .int .i64 0, .slice none 0 0, .int .i64 0, .int .u8 0, .int .u8 0, .int .u8 0, .int .u8 0] 87) := ⟨_, rfl⟩
            rw [← hwq8] at Hq8 ⊢
            clear hwq8
            refine hK.out _ _ Hq8.out.held (fun _ => ?_)
            clear hK K
            try simp only [Act.put, List.setIfInBounds_toArray, List.set_cons_zero, List.set_cons_succ]
            refine wpAnyH_ready (rs := [8]) (by kernel_rfl) (by simp) ?_
            refine AllReadyH.cons (o := ?o8q9) ?ho8q9 (fun K hK => ?st8q9) ?mo8q9
            case ho8q9 => (simp only [List.getElem?_toArray, List.getElem?_cons_zero, List.getElem?_cons_succ]; rfl)
            · skip
              have hq := Hq8.out.cellsA
              obtain ⟨x0, x1, x2, x3, x4, x5, x6, x7, x8⟩ := hq.1
              obtain ⟨y0, y1, y2, y3, y4, y5, y6, y7, y8⟩ := hq.2
              clear hq
              try unfold LV.val
              go_simp
              have Hq9 := Lib.hid Hq8.out.putA
              unfold nine at Hq9
              clear x0 x1 x2 x3 x4 x5 x6 x7 x8 y0 y1 y2 y3 y4 y5 y6 y7 y8
              generalize World.setCell _ _ _ = wq9 at Hq9 ⊢
              refine hK.out _ _ Hq9.out.held (fun _ => ?_)
              clear hK K
              try simp only [Act.put, List.setIfInBounds_toArray, List.set_cons_zero, List.set_cons_succ]
              refine wpAnyH_ready (rs := [9]) (by kernel_rfl) (by simp) ?_
              refine AllReadyH.cons (o := ?o9q10) ?ho9q10 (fun K hK => ?st9q10) ?mo9q10
              case ho9q10 => (simp only [List.getElem?_toArray, List.getElem?_cons_zero, List.getElem?_cons_succ]; rfl)
              · skip
                have hq := Hq9.out.cellsB
                obtain ⟨x0, x1, x2, x3, x4, x5, x6, x7, x8⟩ := hq.1
                obtain ⟨y0, y1, y2, y3, y4, y5, y6, y7, y8⟩ := hq.2
                clear hq
                try unfold LV.val
                go_simp
                have Hq10 := Lib.hid Hq9.out.putB
                unfold nine at Hq10
                clear x0 x1 x2 x3 x4 x5 x6 x7 x8 y0 y1 y2 y3 y4 y5 y6 y7 y8
                generalize World.setCell _ _ _ = wq10 at Hq10 ⊢
                refine hK.out _ _ Hq10.out.held (fun _ => ?_)
                clear hK K
                try simp only [Act.put, List.setIfInBounds_toArray, List.set_cons_zero, List.set_cons_succ]
                refine wpAnyH_done (by kernel_rfl) ?_ _
                go_wp2_with fail
                go_meet
                exact ⟨_, _, rA, rB, rfl, rfl, Hq10⟩
              exact AllReadyH.nil
            exact AllReadyH.nil
          exact AllReadyH.nil
        exact AllReadyH.nil
      refine AllReadyH.cons (o := ?o6q11) ?ho6q11 (fun K hK => ?st6q11) ?mo6q11
      case ho6q11 => (simp only [List.getElem?_toArray, List.getElem?_cons_zero, List.getElem?_cons_succ]; rfl)
      · skip
        go_simp
        have Hq11 := Lib.hid Hq1.out.newA
        obtain ⟨wq11, hwq11⟩ : ∃ x, x = wq1.alloc (.cells #[.bool false, .bool false, .int .i64 0, .slice none 0 0, .int .i64 0, .int .u8 0, .int .u8 0, .int .u8 0, .int .u8 0] 87) := ⟨_, rfl⟩
        rw [← hwq11] at Hq11 ⊢
        clear hwq11
        refine hK.out _ _ Hq11.out.held (fun _ => ?_)
        clear hK K
        try simp only [Act.put, List.setIfInBounds_toArray, List.set_cons_zero, List.set_cons_succ]
        refine wpAnyH_ready (rs := [5, 7]) (by kernel_rfl) (by simp) ?_
        refine AllReadyH.cons (o := ?o5q12) ?ho5q12 (fun K hK => ?st5q12) ?mo5q12
        case ho5q12 => (simp only [List.getElem?_toArray, List.getElem?_cons_zero, List.getElem?_cons_succ]; rfl)
        · skip
          go_simp
          refine (HLB.out _ Hq11.out.bw).mono ?_
          rintro _ wq12 ⟨rB, rfl, hv, hb⟩
          have Hq12 := Lib.hid (Hq11.out.lookB hb hv)
          clear hv hb
          refine hK.out _ _ Hq12.out.held (fun _ => ?_)
          clear hK K
          try simp only [Act.put, List.setIfInBounds_toArray, List.set_cons_zero, List.set_cons_succ]
          refine wpAnyH_ready (rs := [7]) (by kernel_rfl) (by simp) ?_
          refine AllReadyH.cons (o := ?o7q13) ?ho7q13 (fun K hK => ?st7q13) ?mo7q13
          case ho7q13 => (simp only [List.getElem?_toArray, List.getElem?_cons_zero, List.getElem?_cons_succ]; rfl)
          · skip
            go_simp
            have Hq13 := Lib.hid Hq12.out.newB
            obtain ⟨wq13, hwq13⟩ : ∃ x, x = wq12.alloc (.cells #[.bool false, .bool false, .int .i64 0, .slice none 0 0, .int .i64 0, .int .u8 0, .int .u8 0, .int .u8 0, .int .u8 0] 87) := ⟨_, rfl⟩
            rw [← hwq13] at Hq13 ⊢
            clear hwq13
            refine hK.out _ _ Hq13.out.held (fun _ => ?_)
            clear hK K
            try simp only [Act.put, List.setIfInBounds_toArray, List.set_cons_zero, List.set_cons_succ]
            refine wpAnyH_ready (rs := [8]) (by kernel_rfl) (by simp) ?_
            refine AllReadyH.cons (o := ?o8q14) ?ho8q14 (fun K hK => ?st8q14) ?mo8q14
            case ho8q14 => (simp only [List.getElem?_toArray, List.getElem?_cons_zero, List.getElem?_cons_succ]; rfl)
            · skip
              have hq := Hq13.out.cellsA
              obtain ⟨x0, x1, x2, x3, x4, x5, x6, x7, x8⟩ := hq.1
              obtain ⟨y0, y1, y2, y3, y4, y5, y6, y7, y8⟩ := hq.2
              clear hq
              try unfold LV.val
              go_simp
              have Hq14 := Lib.hid Hq13.out.putA
              unfold nine at Hq14
              clear x0 x1 x2 x3 x4 x5 x6 x7 x8 y0 y1 y2 y3 y4 y5 y6 y7 y8
              generalize World.setCell _ _ _ = wq14 at Hq14 ⊢
              refine hK.out _ _ Hq14.out.held (fun _ => ?_)
              clear hK K
              try simp only [Act.put, List.setIfInBounds_toArray, List.set_cons_zero, List.set_cons_succ]
              refine wpAnyH_ready (rs := [9]) (by kernel_rfl) (by simp) ?_
              refine AllReadyH.cons (o := ?o9q15) ?ho9q15 (fun K hK => ?st9q15) ?mo9q15
              case ho9q15 => (simp only [List.getElem?_toArray, List.getElem?_cons_zero, List.getElem?_cons_succ]; rfl)
              · skip
                have hq := Hq14.out.cellsB
                obtain ⟨x0, x1, x2, x3, x4, x5, x6, x7, x8⟩ := hq.1
                obtain ⟨y0, y1, y2, y3, y4, y5, y6, y7, y8⟩ := hq.2
                clear hq
                try unfold LV.val
                go_simp
                have Hq15 := Lib.hid Hq14.out.putB
                unfold nine at Hq15
                clear x0 x1 x2 x3 x4 x5 x6 x7 x8 y0 y1 y2 y3 y4 y5 y6 y7 y8
                generalize World.setCell _ _ _ = wq15 at Hq15 ⊢
                refine hK.out _ _ Hq15.out.held (fun _ => ?_)
                clear hK K
                try simp only [Act.put, List.setIfInBounds_toArray, List.set_cons_zero, List.set_cons_succ]
                refine wpAnyH_done (by kernel_rfl) ?_ _
                go_wp2_with fail
                go_meet
                exact ⟨_, _, rA, rB, rfl, rfl, Hq15⟩
              exact AllReadyH.nil
            exact AllReadyH.nil
          exact AllReadyH.nil
        refine AllReadyH.cons (o := ?o7q16) ?ho7q16 (fun K hK => ?st7q16) ?mo7q16
        case ho7q16 => (simp only [List.getElem?_toArray, List.getElem?_cons_zero, List.getElem?_cons_succ]; rfl)
        · skip
          go_simp
          have Hq16 := Lib.hid Hq11.out.newB
          obtain ⟨wq16, hwq16⟩ : ∃ x, x = wq11.alloc (.cells #[.bool false, .bool false, .int .i64 0, .slice none 0 0, .int .i64 0, .int .u8 0, .int .u8 0, .int .u8 0, .int .u8 0] 87) := ⟨_, rfl⟩
          rw [← hwq16] at Hq16 ⊢
          clear hwq16
          refine hK.out _ _ Hq16.out.held (fun _ => ?_)
          clear hK K
          try simp only [Act.put, List.setIfInBounds_toArray, List.set_cons_zero, List.set_cons_succ]
          refine wpAnyH_ready (rs := [5]) (by kernel_rfl) (by simp) ?_
          refine AllReadyH.cons (o := ?o5q17) ?ho5q17 (fun K hK => ?st5q17) ?mo5q17
          case ho5q17 => (simp only [List.getElem?_toArray, List.getElem?_cons_zero, List.getElem?_cons_succ]; rfl)
          · skip
            go_simp
            refine (HLB.out _ Hq16.out.bw).mono ?_
            rintro _ wq17 ⟨rB, rfl, hv, hb⟩
            have Hq17 := Lib.hid (Hq16.out.lookB hb hv)
            clear hv hb
            refine hK.out _ _ Hq17.out.held (fun _ => ?_)
            clear hK K
            try simp only [Act.put, List.setIfInBounds_toArray, List.set_cons_zero, List.set_cons_succ]
            refine wpAnyH_ready (rs := [8]) (by kernel_rfl) (by simp) ?_
            refine AllReadyH.cons (o := ?o8q18) ?ho8q18 (fun K hK => ?st8q18) ?mo8q18
            case ho8q18 => (simp only [List.getElem?_toArray, List.getElem?_cons_zero, List.getElem?_cons_succ]; rfl)
            · skip
              have hq := Hq17.out.cellsA
              obtain ⟨x0, x1, x2, x3, x4, x5, x6, x7, x8⟩ := hq.1
              obtain ⟨y0, y1, y2, y3, y4, y5, y6, y7, y8⟩ := hq.2
              clear hq
              try unfold LV.val
              go_simp
              have Hq18 := Lib.hid Hq17.out.putA
              unfold nine at Hq18
              clear x0 x1 x2 x3 x4 x5 x6 x7 x8 y0 y1 y2 y3 y4 y5 y6 y7 y8
              generalize World.setCell _ _ _ = wq18 at Hq18 ⊢
              refine hK.out _ _ Hq18.out.held (fun _ => ?_)
              clear hK K
              try simp only [Act.put, List.setIfInBounds_toArray, List.set_cons_zero, List.set_cons_succ]
              refine wpAnyH_ready (rs := [9]) (by kernel_rfl) (by simp) ?_
              refine AllReadyH.cons (o := ?o9q19) ?ho9q19 (fun K hK => ?st9q19) ?mo9q19
              case ho9q19 => (simp only [List.getElem?_toArray, List.getElem?_cons_zero, List.getElem?_cons_succ]; rfl)
              · skip
                have hq := Hq18.out.cellsB
                obtain ⟨x0, x1, x2, x3, x4, x5, x6, x7, x8⟩ := hq.1
                obtain ⟨y0, y1, y2, y3, y4, y5, y6, y7, y8⟩ := hq.2
                clear hq
                try unfold LV.val
                go_simp
                have Hq19 := Lib.hid Hq18.out.putB
                unfold nine at Hq19
                clear x0 x1 x2 x3 x4 x5 x6 x7 x8 y0 y1 y2 y3 y4 y5 y6 y7 y8
                generalize World.setCell _ _ _ = wq19 at Hq19 ⊢
                refine hK.out _ _ Hq19.out.held (fun _ => ?_)
                clear hK K
                try simp only [Act.put, List.setIfInBounds_toArray, List.set_cons_zero, List.set_cons_succ]
                refine wpAnyH_done (by kernel_rfl) ?_ _
                go_wp2_with fail
                go_meet
                exact ⟨_, _, rA, rB, rfl, rfl, Hq19⟩
              exact AllReadyH.nil
            exact AllReadyH.nil
          exact AllReadyH.nil
        exact AllReadyH.nil
      refine AllReadyH.cons (o := ?o7q20) ?ho7q20 (fun K hK => ?st7q20) ?mo7q20
      case ho7q20 => (simp only [List.getElem?_toArray, List.getElem?_cons_zero, List.getElem?_cons_succ]; rfl)
      · skip
        go_simp
        have Hq20 := Lib.hid Hq1.out.newB
        obtain ⟨wq20, hwq20⟩ : ∃ x, x = wq1.alloc (.cells #[.bool false, .bool false, .int .i64 0, .slice none 0 0, .int .i64 0, .int .u8 0, .int .u8 0, .int .u8 0, .int .u8 0] 87) := ⟨_, rfl⟩
        rw [← hwq20] at Hq20 ⊢
        clear hwq20
        refine hK.out _ _ Hq20.out.held (fun _ => ?_)
        clear hK K
        try simp only [Act.put, List.setIfInBounds_toArray, List.set_cons_zero, List.set_cons_succ]
        refine wpAnyH_ready (rs := [5, 6]) (by kernel_rfl) (by simp) ?_
        refine AllReadyH.cons (o := ?o5q21) ?ho5q21 (fun K hK => ?st5q21) ?mo5q21
        case ho5q21 => (simp only [List.getElem?_toArray, List.getElem?_cons_zero, List.getElem?_cons_succ]; rfl)
        · skip
          go_simp
          refine (HLB.out _ Hq20.out.bw).mono ?_
          rintro _ wq21 ⟨rB, rfl, hv, hb⟩
          have Hq21 := Lib.hid (Hq20.out.lookB hb hv)
          clear hv hb
          refine hK.out _ _ Hq21.out.held (fun _ => ?_)
          clear hK K
          try simp only [Act.put, List.setIfInBounds_toArray, List.set_cons_zero, List.set_cons_succ]
          refine wpAnyH_ready (rs := [6]) (by kernel_rfl) (by simp) ?_
          refine AllReadyH.cons (o := ?o6q22) ?ho6q22 (fun K hK => ?st6q22) ?mo6q22
          case ho6q22 => (simp only [List.getElem?_toArray, List.getElem?_cons_zero, List.getElem?_cons_succ]; rfl)
          · skip
            go_simp
            have Hq22 := Lib.hid Hq21.out.newA
            obtain ⟨wq22, hwq22⟩ : ∃ x, x = wq21.alloc (.cells #[.bool false, .bool false, .int .i64 0, .slice none 0 0, .int .i64 0, .int .u8 0, .int .u8 0, .int .u8 0, .int .u8 0] 87) := ⟨_, rfl⟩
            rw [← hwq22] at Hq22 ⊢
            clear hwq22
            refine hK.out _ _ Hq22.out.held (fun _ => ?_)
            clear hK K
            try simp only [Act.put, List.setIfInBounds_toArray, List.set_cons_zero, List.set_cons_succ]
            refine wpAnyH_ready (rs := [8]) (by kernel_rfl) (by simp) ?_
            refine AllReadyH.cons (o := ?o8q23) ?ho8q23 (fun K hK => ?st8q23) ?mo8q23
            case ho8q23 => (simp only [List.getElem?_toArray, List.getElem?_cons_zero, List.getElem?_cons_succ]; rfl)
            · skip
              have hq := Hq22.out.cellsA
              obtain ⟨x0, x1, x2, x3, x4, x5, x6, x7, x8⟩ := hq.1
              obtain ⟨y0, y1, y2, y3, y4, y5, y6, y7, y8⟩ := hq.2
              clear hq
              try unfold LV.val
              go_simp
              have Hq23 := Lib.hid Hq22.out.putA
              unfold nine at Hq23
              clear x0 x1 x2 x3 x4 x5 x6 x7 x8 y0 y1 y2 y3 y4 y5 y6 y7 y8
              generalize World.setCell _ _ _ = wq23 at Hq23 ⊢
              refine hK.out _ _ Hq23.out.held (fun _ => ?_)
              clear hK K
              try simp only [Act.put, List.setIfInBounds_toArray, List.set_cons_zero, List.set_cons_succ]
              refine wpAnyH_ready (rs := [9]) (by kernel_rfl) (by simp) ?_
              refine AllReadyH.cons (o := ?o9q24) ?ho9q24 (fun K hK => ?st9q24) ?mo9q24
              case ho9q24 => (simp only [List.getElem?_toArray, List.getElem?_cons_zero, List.getElem?_cons_succ]; rfl)
              · skip
                have hq := Hq23.out.cellsB
                obtain ⟨x0, x1, x2, x3, x4, x5, x6, x7, x8⟩ := hq.1
                obtain ⟨y0, y1, y2, y3, y4, y5, y6, y7, y8⟩ := hq.2
                clear hq
                try unfold LV.val
                go_simp
                have Hq24 := Lib.hid Hq23.out.putB
                unfold nine at Hq24
                clear x0 x1 x2 x3 x4 x5 x6 x7 x8 y0 y1 y2 y3 y4 y5 y6 y7 y8
                generalize World.setCell _ _ _ = wq24 at Hq24 ⊢
                refine hK.out _ _ Hq24.out.held (fun _ => ?_)
                clear hK K
                try simp only [Act.put, List.setIfInBounds_toArray, List.set_cons_zero, List.set_cons_succ]
                refine wpAnyH_done (by kernel_rfl) ?_ _
                go_wp2_with fail
                go_meet
                exact ⟨_, _, rA, rB, rfl, rfl, Hq24⟩
              exact AllReadyH.nil
            exact AllReadyH.nil
          exact AllReadyH.nil
        refine AllReadyH.cons (o := ?o6q25) ?ho6q25 (fun K hK => ?st6q25) ?mo6q25
        case ho6q25 => (simp only [List.getElem?_toArray, List.getElem?_cons_zero, List.getElem?_cons_succ]; rfl)
        · skip
          go_simp
          have Hq25 := Lib.hid Hq20.out.newA
          obtain ⟨wq25, hwq25⟩ : ∃ x, x = wq20.alloc (.cells #[.bool false, .bool false, .int .i64 0, .slice none 0 0, .int .i64 0, .int .u8 0, .int .u8 0, .int .u8 0, .int .u8 0] 87) := ⟨_, rfl⟩
          rw [← hwq25] at Hq25 ⊢
          clear hwq25
          refine hK.out _ _ Hq25.out.held (fun _ => ?_)
          clear hK K
          try simp only [Act.put, List.setIfInBounds_toArray, List.set_cons_zero, List.set_cons_succ]
          refine wpAnyH_ready (rs := [5]) (by kernel_rfl) (by simp) ?_
          refine AllReadyH.cons (o := ?o5q26) ?ho5q26 (fun K hK => ?st5q26) ?mo5q26
          case ho5q26 => (simp only [List.getElem?_toArray, List.getElem?_cons_zero, List.getElem?_cons_succ]; rfl)
          · skip
            go_simp
            refine (HLB.out _ Hq25.out.bw).mono ?_
            rintro _ wq26 ⟨rB, rfl, hv, hb⟩
            have Hq26 := Lib.hid (Hq25.out.lookB hb hv)
            clear hv hb
            refine hK.out _ _ Hq26.out.held (fun _ => ?_)
            clear hK K
            try simp only [Act.put, List.setIfInBounds_toArray, List.set_cons_zero, List.set_cons_succ]
            refine wpAnyH_ready (rs := [8]) (by kernel_rfl) (by simp) ?_
            refine AllReadyH.cons (o := ?o8q27) ?ho8q27 (fun K hK => ?st8q27) ?mo8q27
            case ho8q27 => (simp only [List.getElem?_toArray, List.getElem?_cons_zero, List.getElem?_cons_succ]; rfl)
            · skip
              have hq := Hq26.out.cellsA
              obtain ⟨x0, x1, x2, x3, x4, x5, x6, x7, x8⟩ := hq.1
              obtain ⟨y0, y1, y2, y3, y4, y5, y6, y7, y8⟩ := hq.2
              clear hq
              try unfold LV.val
              go_simp
              have Hq27 := Lib.hid Hq26.out.putA
              unfold nine at Hq27
              clear x0 x1 x2 x3 x4 x5 x6 x7 x8 y0 y1 y2 y3 y4 y5 y6 y7 y8
              generalize World.setCell _ _ _ = wq27 at Hq27 ⊢
              refine hK.out _ _ Hq27.out.held (fun _ => ?_)
              clear hK K
              try simp only [Act.put, List.setIfInBounds_toArray, List.set_cons_zero, List.set_cons_succ]
              refine wpAnyH_ready (rs := [9]) (by kernel_rfl) (by simp) ?_
              refine AllReadyH.cons (o := ?o9q28) ?ho9q28 (fun K hK => ?st9q28) ?mo9q28
              case ho9q28 => (simp only [List.getElem?_toArray, List.getElem?_cons_zero, List.getElem?_cons_succ]; rfl)
              · skip
                have hq := Hq27.out.cellsB
                obtain ⟨x0, x1, x2, x3, x4, x5, x6, x7, x8⟩ := hq.1
                obtain ⟨y0, y1, y2, y3, y4, y5, y6, y7, y8⟩ := hq.2
                clear hq
                try unfold LV.val
                go_simp
                have Hq28 := Lib.hid Hq27.out.putB
                unfold nine at Hq28
                clear x0 x1 x2 x3 x4 x5 x6 x7 x8 y0 y1 y2 y3 y4 y5 y6 y7 y8
                generalize World.setCell _ _ _ = wq28 at Hq28 ⊢
                refine hK.out _ _ Hq28.out.held (fun _ => ?_)
                clear hK K
                try simp only [Act.put, List.setIfInBounds_toArray, List.set_cons_zero, List.set_cons_succ]
                refine wpAnyH_done (by kernel_rfl) ?_ _
                go_wp2_with fail
                go_meet
                exact ⟨_, _, rA, rB, rfl, rfl, Hq28⟩
              exact AllReadyH.nil
            exact AllReadyH.nil
          exact AllReadyH.nil
        exact AllReadyH.nil
      exact AllReadyH.nil
    refine AllReadyH.cons (o := ?o6q29) ?ho6q29 (fun K hK => ?st6q29) ?mo6q29
    case ho6q29 => (simp only [List.getElem?_toArray, List.getElem?_cons_zero, List.getElem?_cons_succ]; rfl)
    · skip
      go_simp
      have Hq29 := Lib.hid HS0.out.newA
      obtain ⟨wq29, hwq29⟩ : ∃ x, x = wd.alloc (.cells #[.bool false, .bool false, .int .i64 0, .slice none 0 0, .int .i64 0, .int .u8 0, .int .u8 0, .int .u8 0, .int .u8 0] 87) := ⟨_, rfl⟩
      rw [← hwq29] at Hq29 ⊢
      clear hwq29
      refine hK.out _ _ Hq29.out.held (fun _ => ?_)
      clear hK K
      try simp only [Act.put, List.setIfInBounds_toArray, List.set_cons_zero, List.set_cons_succ]
      refine wpAnyH_ready (rs := [2, 7]) (by kernel_rfl) (by simp) ?_
      refine AllReadyH.cons (o := ?o2q30) ?ho2q30 (fun K hK => ?st2q30) ?mo2q30
      case ho2q30 => (simp only [List.getElem?_toArray, List.getElem?_cons_zero, List.getElem?_cons_succ]; rfl)
      · skip
        go_simp
        refine (HLA.out _ Hq29.out.bw).mono ?_
        rintro _ wq30 ⟨rA, rfl, hv, hb⟩
        have Hq30 := Lib.hid (Hq29.out.lookA hb hv)
        clear hv hb
        refine hK.out _ _ Hq30.out.held (fun _ => ?_)
        clear hK K
        try simp only [Act.put, List.setIfInBounds_toArray, List.set_cons_zero, List.set_cons_succ]
        refine wpAnyH_ready (rs := [5, 7]) (by kernel_rfl) (by simp) ?_
        refine AllReadyH.cons (o := ?o5q31) ?ho5q31 (fun K hK => ?st5q31) ?mo5q31
        case ho5q31 => (simp only [List.getElem?_toArray, List.getElem?_cons_zero, List.getElem?_cons_succ]; rfl)
        · skip
          go_simp
          refine (HLB.out _ Hq30.out.bw).mono ?_
          rintro _ wq31 ⟨rB, rfl, hv, hb⟩
          have Hq31 := Lib.hid (Hq30.out.lookB hb hv)
          clear hv hb
          refine hK.out _ _ Hq31.out.held (fun _ => ?_)
          clear hK K
          try simp only [Act.put, List.setIfInBounds_toArray, List.set_cons_zero, List.set_cons_succ]
          refine wpAnyH_ready (rs := [7]) (by kernel_rfl) (by simp) ?_
          refine AllReadyH.cons (o := ?o7q32) ?ho7q32 (fun K hK => ?st7q32) ?mo7q32
          case ho7q32 => (simp only [List.getElem?_toArray, List.getElem?_cons_zero, List.getElem?_cons_succ]; rfl)
          · skip
            go_simp
            have Hq32 := Lib.hid Hq31.out.newB
            obtain ⟨wq32, hwq32⟩ : ∃ x, x = wq31.alloc (.cells #[.bool false, .bool false, .int .i64 0, .slice none 0 0, .int .i64 0, .int .u8 0, .int .u8 0, .int .u8 0, .int .u8 0] 87) := ⟨_, rfl⟩
            rw [← hwq32] at Hq32 ⊢
            clear hwq32
            refine hK.out _ _ Hq32.out.held (fun _ => ?_)
            clear hK K
            try simp only [Act.put, List.setIfInBounds_toArray, List.set_cons_zero, List.set_cons_succ]
            refine wpAnyH_ready (rs := [8]) (by kernel_rfl) (by simp) ?_
            refine AllReadyH.cons (o := ?o8q33) ?ho8q33 (fun K hK => ?st8q33) ?mo8q33
            case ho8q33 => (simp only [List.getElem?_toArray, List.getElem?_cons_zero, List.getElem?_cons_succ]; rfl)
            · skip
              have hq := Hq32.out.cellsA
              obtain ⟨x0, x1, x2, x3, x4, x5, x6, x7, x8⟩ := hq.1
              obtain ⟨y0, y1, y2, y3, y4, y5, y6, y7, y8⟩ := hq.2
              clear hq
              try unfold LV.val
              go_simp
              have Hq33 := Lib.hid Hq32.out.putA
              unfold nine at Hq33
              clear x0 x1 x2 x3 x4 x5 x6 x7 x8 y0 y1 y2 y3 y4 y5 y6 y7 y8
              generalize World.setCell _ _ _ = wq33 at Hq33 ⊢
              refine hK.out _ _ Hq33.out.held (fun _ => ?_)
              clear hK K
              try simp only [Act.put, List.setIfInBounds_toArray, List.set_cons_zero, List.set_cons_succ]
              refine wpAnyH_ready (rs := [9]) (by kernel_rfl) (by simp) ?_
              refine AllReadyH.cons (o := ?o9q34) ?ho9q34 (fun K hK => ?st9q34) ?mo9q34
              case ho9q34 => (simp only [List.getElem?_toArray, List.getElem?_cons_zero, List.getElem?_cons_succ]; rfl)
              · skip
                have hq := Hq33.out.cellsB
                obtain ⟨x0, x1, x2, x3, x4, x5, x6, x7, x8⟩ := hq.1
                obtain ⟨y0, y1, y2, y3, y4, y5, y6, y7, y8⟩ := hq.2
                clear hq
                try unfold LV.val
                go_simp
                have Hq34 := Lib.hid Hq33.out.putB
                unfold nine at Hq34
                clear x0 x1 x2 x3 x4 x5 x6 x7 x8 y0 y1 y2 y3 y4 y5 y6 y7 y8
                generalize World.setCell _ _ _ = wq34 at Hq34 ⊢
                refine hK.out _ _ Hq34.out.held (fun _ => ?_)
                clear hK K
                try simp only [Act.put, List.setIfInBounds_toArray, List.set_cons_zero, List.set_cons_succ]
                refine wpAnyH_done (by kernel_rfl) ?_ _
                go_wp2_with fail
                go_meet
                exact ⟨_, _, rA, rB, rfl, rfl, Hq34⟩
              exact AllReadyH.nil
            exact AllReadyH.nil
          exact AllReadyH.nil
        refine AllReadyH.cons (o := ?o7q35) ?ho7q35 (fun K hK => ?st7q35) ?mo7q35
        case ho7q35 => (simp only [List.getElem?_toArray, List.getElem?_cons_zero, List.getElem?_cons_succ]; rfl)
        · skip
          go_simp
          have Hq35 := Lib.hid Hq30.out.newB
          obtain ⟨wq35, hwq35⟩ : ∃ x, x = wq30.alloc (.cells #[.bool false, .bool false, .int .i64 0, .slice none 0 0, .int .i64 0, .int .u8 0, .int .u8 0, .int .u8 0, .int .u8 0] 87) := ⟨_, rfl⟩
          rw [← hwq35] at Hq35 ⊢
          clear hwq35
          refine hK.out _ _ Hq35.out.held (fun _ => ?_)
          clear hK K
          try simp only [Act.put, List.setIfInBounds_toArray, List.set_cons_zero, List.set_cons_succ]
          refine wpAnyH_ready (rs := [5]) (by kernel_rfl) (by simp) ?_
          refine AllReadyH.cons (o := ?o5q36) ?ho5q36 (fun K hK => ?st5q36) ?mo5q36
          case ho5q36 => (simp only [List.getElem?_toArray, List.getElem?_cons_zero, List.getElem?_cons_succ]; rfl)
          · skip
            go_simp
            refine (HLB.out _ Hq35.out.bw).mono ?_
            rintro _ wq36 ⟨rB, rfl, hv, hb⟩
            have Hq36 := Lib.hid (Hq35.out.lookB hb hv)
            clear hv hb
            refine hK.out _ _ Hq36.out.held (fun _ => ?_)
            clear hK K
            try simp only [Act.put, List.setIfInBounds_toArray, List.set_cons_zero, List.set_cons_succ]
            refine wpAnyH_ready (rs := [8]) (by kernel_rfl) (by simp) ?_
            refine AllReadyH.cons (o := ?o8q37) ?ho8q37 (fun K hK => ?st8q37) ?mo8q37
            case ho8q37 => (simp only [List.getElem?_toArray, List.getElem?_cons_zero, List.getElem?_cons_succ]; rfl)
            · skip
              have hq := Hq36.out.cellsA
              obtain ⟨x0, x1, x2, x3, x4, x5, x6, x7, x8⟩ := hq.1
              obtain ⟨y0, y1, y2, y3, y4, y5, y6, y7, y8⟩ := hq.2
              clear hq
              try unfold LV.val
              go_simp
              have Hq37 := Lib.hid Hq36.out.putA
              unfold nine at Hq37
              clear x0 x1 x2 x3 x4 x5 x6 x7 x8 y0 y1 y2 y3 y4 y5 y6 y7 y8
              generalize World.setCell _ _ _ = wq37 at Hq37 ⊢
              refine hK.out _ _ Hq37.out.held (fun _ => ?_)
              clear hK K
              try simp only [Act.put, List.setIfInBounds_toArray, List.set_cons_zero, List.set_cons_succ]
              refine wpAnyH_ready (rs := [9]) (by kernel_rfl) (by simp) ?_
              refine AllReadyH.cons (o := ?o9q38) ?ho9q38 (fun K hK => ?st9q38) ?mo9q38
              case ho9q38 => (simp only [List.getElem?_toArray, List.getElem?_cons_zero, List.getElem?_cons_succ]; rfl)
              · skip
                have hq := Hq37.out.cellsB
                obtain ⟨x0, x1, x2, x3, x4, x5, x6, x7, x8⟩ := hq.1
                obtain ⟨y0, y1, y2, y3, y4, y5, y6, y7, y8⟩ := hq.2
                clear hq
                try unfold LV.val
                go_simp
                have Hq38 := Lib.hid Hq37.out.putB
                unfold nine at Hq38
                clear x0 x1 x2 x3 x4 x5 x6 x7 x8 y0 y1 y2 y3 y4 y5 y6 y7 y8
                generalize World.setCell _ _ _ = wq38 at Hq38 ⊢
                refine hK.out _ _ Hq38.out.held (fun _ => ?_)
                clear hK K
                try simp only [Act.put, List.setIfInBounds_toArray, List.set_cons_zero, List.set_cons_succ]
                refine wpAnyH_done (by kernel_rfl) ?_ _
                go_wp2_with fail
                go_meet
                exact ⟨_, _, rA, rB, rfl, rfl, Hq38⟩
              exact AllReadyH.nil
            exact AllReadyH.nil
          exact AllReadyH.nil
        exact AllReadyH.nil
      refine AllReadyH.cons (o := ?o7q39) ?ho7q39 (fun K hK => ?st7q39) ?mo7q39
      case ho7q39 => (simp only [List.getElem?_toArray, List.getElem?_cons_zero, List.getElem?_cons_succ]; rfl)
      · skip
        go_simp
        have Hq39 := Lib.hid Hq29.out.newB
        obtain ⟨wq39, hwq39⟩ : ∃ x, x = wq29.alloc (.cells #[.bool false, .bool false, .int .i64 0, .slice none 0 0, .int .i64 0, .int .u8 0, .int .u8 0, .int .u8 0, .int .u8 0] 87) := ⟨_, rfl⟩
        rw [← hwq39] at Hq39 ⊢
        clear hwq39
        refine hK.out _ _ Hq39.out.held (fun _ => ?_)
        clear hK K
        try simp only [Act.put, List.setIfInBounds_toArray, List.set_cons_zero, List.set_cons_succ]
        refine wpAnyH_ready (rs := [2]) (by kernel_rfl) (by simp) ?_
        refine AllReadyH.cons (o := ?o2q40) ?ho2q40 (fun K hK => ?st2q40) ?mo2q40
        case ho2q40 => (simp only [List.getElem?_toArray, List.getElem?_cons_zero, List.getElem?_cons_succ]; rfl)
        · skip
          go_simp
          refine (HLA.out _ Hq39.out.bw).mono ?_
          rintro _ wq40 ⟨rA, rfl, hv, hb⟩
          have Hq40 := Lib.hid (Hq39.out.lookA hb hv)
          clear hv hb
          refine hK.out _ _ Hq40.out.held (fun _ => ?_)
          clear hK K
          try simp only [Act.put, List.setIfInBounds_toArray, List.set_cons_zero, List.set_cons_succ]
          refine wpAnyH_ready (rs := [5]) (by kernel_rfl) (by simp) ?_
          refine AllReadyH.cons (o := ?o5q41) ?ho5q41 (fun K hK => ?st5q41) ?mo5q41
          case ho5q41 => (simp only [List.getElem?_toArray, List.getElem?_cons_zero, List.getElem?_cons_succ]; rfl)
          · skip
            go_simp
            refine (HLB.out _ Hq40.out.bw).mono ?_
            rintro _ wq41 ⟨rB, rfl, hv, hb⟩
            have Hq41 := Lib.hid (Hq40.out.lookB hb hv)
            clear hv hb
            refine hK.out _ _ Hq41.out.held (fun _ => ?_)
            clear hK K
            try simp only [Act.put, List.setIfInBounds_toArray, List.set_cons_zero, List.set_cons_succ]
            refine wpAnyH_ready (rs := [8]) (by kernel_rfl) (by simp) ?_
            refine AllReadyH.cons (o := ?o8q42) ?ho8q42 (fun K hK => ?st8q42) ?mo8q42
            case ho8q42 => (simp only [List.getElem?_toArray, List.getElem?_cons_zero, List.getElem?_cons_succ]; rfl)
            · skip
              have hq := Hq41.out.cellsA
              obtain ⟨x0, x1, x2, x3, x4, x5, x6, x7, x8⟩ := hq.1
              obtain ⟨y0, y1, y2, y3, y4, y5, y6, y7, y8⟩ := hq.2
              clear hq
              try unfold LV.val
              go_simp
              have Hq42 := Lib.hid Hq41.out.putA
              unfold nine at Hq42
              clear x0 x1 x2 x3 x4 x5 x6 x7 x8 y0 y1 y2 y3 y4 y5 y6 y7 y8
              generalize World.setCell _ _ _ = wq42 at Hq42 ⊢
              refine hK.out _ _ Hq42.out.held (fun _ => ?_)
              clear hK K
              try simp only [Act.put, List.setIfInBounds_toArray, List.set_cons_zero, List.set_cons_succ]
              refine wpAnyH_ready (rs := [9]) (by kernel_rfl) (by simp) ?_
              refine AllReadyH.cons (o := ?o9q43) ?ho9q43 (fun K hK => ?st9q43) ?mo9q43
              case ho9q43 => (simp only [List.getElem?_toArray, List.getElem?_cons_zero, List.getElem?_cons_succ]; rfl)
              · skip
                have hq := Hq42.out.cellsB
                obtain ⟨x0, x1, x2, x3, x4, x5, x6, x7, x8⟩ := hq.1
                obtain ⟨y0, y1, y2, y3, y4, y5, y6, y7, y8⟩ := hq.2
                clear hq
                try unfold LV.val
                go_simp
                have Hq43 := Lib.hid Hq42.out.putB
                unfold nine at Hq43
                clear x0 x1 x2 x3 x4 x5 x6 x7 x8 y0 y1 y2 y3 y4 y5 y6 y7 y8
                generalize World.setCell _ _ _ = wq43 at Hq43 ⊢
                refine hK.out _ _ Hq43.out.held (fun _ => ?_)
                clear hK K
                try simp only [Act.put, List.setIfInBounds_toArray, List.set_cons_zero, List.set_cons_succ]
                refine wpAnyH_done (by kernel_rfl) ?_ _
                go_wp2_with fail
                go_meet
                exact ⟨_, _, rA, rB, rfl, rfl, Hq43⟩
              exact AllReadyH.nil
            exact AllReadyH.nil
          exact AllReadyH.nil
        exact AllReadyH.nil
      exact AllReadyH.nil
    refine AllReadyH.cons (o := ?o7q44) ?ho7q44 (fun K hK => ?st7q44) ?mo7q44
    case ho7q44 => (simp only [List.getElem?_toArray, List.getElem?_cons_zero, List.getElem?_cons_succ]; rfl)
    · skip
      go_simp
      have Hq44 := Lib.hid HS0.out.newB
      obtain ⟨wq44, hwq44⟩ : ∃ x, x = wd.alloc (.cells #[.bool false, .bool false, .int .i64 0, .slice none 0 0, .int .i64 0, .int .u8 0, .int .u8 0, .int .u8 0, .int .u8 0] 87) := ⟨_, rfl⟩
      rw [← hwq44] at Hq44 ⊢
      clear hwq44
      refine hK.out _ _ Hq44.out.held (fun _ => ?_)
      clear hK K
      try simp only [Act.put, List.setIfInBounds_toArray, List.set_cons_zero, List.set_cons_succ]
      refine wpAnyH_ready (rs := [2, 6]) (by kernel_rfl) (by simp) ?_
      refine AllReadyH.cons (o := ?o2q45) ?ho2q45 (fun K hK => ?st2q45) ?mo2q45
      case ho2q45 => (simp only [List.getElem?_toArray, List.getElem?_cons_zero, List.getElem?_cons_succ]; rfl)
      · skip
        go_simp
        refine (HLA.out _ Hq44.out.bw).mono ?_
        rintro _ wq45 ⟨rA, rfl, hv, hb⟩
        have Hq45 := Lib.hid (Hq44.out.lookA hb hv)
        clear hv hb
        refine hK.out _ _ Hq45.out.held (fun _ => ?_)
        clear hK K
        try simp only [Act.put, List.setIfInBounds_toArray, List.set_cons_zero, List.set_cons_succ]
        refine wpAnyH_ready (rs := [5, 6]) (by kernel_rfl) (by simp) ?_
        refine AllReadyH.cons (o := ?o5q46) ?ho5q46 (fun K hK => ?st5q46) ?mo5q46
        case ho5q46 => (simp only [List.getElem?_toArray, List.getElem?_cons_zero, List.getElem?_cons_succ]; rfl)
        · skip
          go_simp
          refine (HLB.out _ Hq45.out.bw).mono ?_
          rintro _ wq46 ⟨rB, rfl, hv, hb⟩
          have Hq46 := Lib.hid (Hq45.out.lookB hb hv)
          clear hv hb
          refine hK.out _ _ Hq46.out.held (fun _ => ?_)
          clear hK K
          try simp only [Act.put, List.setIfInBounds_toArray, List.set_cons_zero, List.set_cons_succ]
          refine wpAnyH_ready (rs := [6]) (by kernel_rfl) (by simp) ?_
          refine AllReadyH.cons (o := ?o6q47) ?ho6q47 (fun K hK => ?st6q47) ?mo6q47
          case ho6q47 => (simp only [List.getElem?_toArray, List.getElem?_cons_zero, List.getElem?_cons_succ]; rfl)
          · skip
            go_simp
            have Hq47 := Lib.hid Hq46.out.newA
            obtain ⟨wq47, hwq47⟩ : ∃ x, x = wq46.alloc (.cells #[.bool false, .bool false, .int .i64 0, .slice none 0 0, .int .i64 0, .int .u8 0, .int .u8 0, .int .u8 0, .int .u8 0] 87) := ⟨_, rfl⟩
            rw [← hwq47] at Hq47 ⊢
            clear hwq47
            refine hK.out _ _ Hq47.out.held (fun _ => ?_)
            clear hK K
            try simp only [Act.put, List.setIfInBounds_toArray, List.set_cons_zero, List.set_cons_succ]
            refine wpAnyH_ready (rs := [8]) (by kernel_rfl) (by simp) ?_
            refine AllReadyH.cons (o := ?o8q48) ?ho8q48 (fun K hK => ?st8q48) ?mo8q48
            case ho8q48 => (simp only [List.getElem?_toArray, List.getElem?_cons_zero, List.getElem?_cons_succ]; rfl)
            · skip
              have hq := Hq47.out.cellsA
              obtain ⟨x0, x1, x2, x3, x4, x5, x6, x7, x8⟩ := hq.1
              obtain ⟨y0, y1, y2, y3, y4, y5, y6, y7, y8⟩ := hq.2
              clear hq
              try unfold LV.val
              go_simp
              have Hq48 := Lib.hid Hq47.out.putA
              unfold nine at Hq48
              clear x0 x1 x2 x3 x4 x5 x6 x7 x8 y0 y1 y2 y3 y4 y5 y6 y7 y8
              generalize World.setCell _ _ _ = wq48 at Hq48 ⊢
              refine hK.out _ _ Hq48.out.held (fun _ => ?_)
              clear hK K
              try simp only [Act.put, List.setIfInBounds_toArray, List.set_cons_zero, List.set_cons_succ]
              refine wpAnyH_ready (rs := [9]) (by kernel_rfl) (by simp) ?_
              refine AllReadyH.cons (o := ?o9q49) ?ho9q49 (fun K hK => ?st9q49) ?mo9q49
              case ho9q49 => (simp only [List.getElem?_toArray, List.getElem?_cons_zero, List.getElem?_cons_succ]; rfl)
              · skip
                have hq := Hq48.out.cellsB
                obtain ⟨x0, x1, x2, x3, x4, x5, x6, x7, x8⟩ := hq.1
                obtain ⟨y0, y1, y2, y3, y4, y5, y6, y7, y8⟩ := hq.2
                clear hq
                try unfold LV.val
                go_simp
                have Hq49 := Lib.hid Hq48.out.putB
                unfold nine at Hq49
                clear x0 x1 x2 x3 x4 x5 x6 x7 x8 y0 y1 y2 y3 y4 y5 y6 y7 y8
                generalize World.setCell _ _ _ = wq49 at Hq49 ⊢
                refine hK.out _ _ Hq49.out.held (fun _ => ?_)
                clear hK K
                try simp only [Act.put, List.setIfInBounds_toArray, List.set_cons_zero, List.set_cons_succ]
                refine wpAnyH_done (by kernel_rfl) ?_ _
                go_wp2_with fail
                go_meet
                exact ⟨_, _, rA, rB, rfl, rfl, Hq49⟩
              exact AllReadyH.nil
            exact AllReadyH.nil
          exact AllReadyH.nil
        refine AllReadyH.cons (o := ?o6q50) ?ho6q50 (fun K hK => ?st6q50) ?mo6q50
        case ho6q50 => (simp only [List.getElem?_toArray, List.getElem?_cons_zero, List.getElem?_cons_succ]; rfl)
        · skip
          go_simp
          have Hq50 := Lib.hid Hq45.out.newA
          obtain ⟨wq50, hwq50⟩ : ∃ x, x = wq45.alloc (.cells #[.bool false, .bool false, .int .i64 0, .slice none 0 0, .int .i64 0, .int .u8 0, .int .u8 0, .int .u8 0, .int .u8 0] 87) := ⟨_, rfl⟩
          rw [← hwq50] at Hq50 ⊢
          clear hwq50
          refine hK.out _ _ Hq50.out.held (fun _ => ?_)
          clear hK K
          try simp only [Act.put, List.setIfInBounds_toArray, List.set_cons_zero, List.set_cons_succ]
          refine wpAnyH_ready (rs := [5]) (by kernel_rfl) (by simp) ?_
          refine AllReadyH.cons (o := ?o5q51) ?ho5q51 (fun K hK => ?st5q51) ?mo5q51
          case ho5q51 => (simp only [List.getElem?_toArray, List.getElem?_cons_zero, List.getElem?_cons_succ]; rfl)
          · skip
            go_simp
            refine (HLB.out _ Hq50.out.bw).mono ?_
            rintro _ wq51 ⟨rB, rfl, hv, hb⟩
            have Hq51 := Lib.hid (Hq50.out.lookB hb hv)
            clear hv hb
            refine hK.out _ _ Hq51.out.held (fun _ => ?_)
            clear hK K
            try simp only [Act.put, List.setIfInBounds_toArray, List.set_cons_zero, List.set_cons_succ]
            refine wpAnyH_ready (rs := [8]) (by kernel_rfl) (by simp) ?_
            refine AllReadyH.cons (o := ?o8q52) ?ho8q52 (fun K hK => ?st8q52) ?mo8q52
            case ho8q52 => (simp only [List.getElem?_toArray, List.getElem?_cons_zero, List.getElem?_cons_succ]; rfl)
            · skip
              have hq := Hq51.out.cellsA
              obtain ⟨x0, x1, x2, x3, x4, x5, x6, x7, x8⟩ := hq.1
              obtain ⟨y0, y1, y2, y3, y4, y5, y6, y7, y8⟩ := hq.2
              clear hq
              try unfold LV.val
              go_simp
              have Hq52 := Lib.hid Hq51.out.putA
              unfold nine at Hq52
              clear x0 x1 x2 x3 x4 x5 x6 x7 x8 y0 y1 y2 y3 y4 y5 y6 y7 y8
              generalize World.setCell _ _ _ = wq52 at Hq52 ⊢
              refine hK.out _ _ Hq52.out.held (fun _ => ?_)
              clear hK K
              try simp only [Act.put, List.setIfInBounds_toArray, List.set_cons_zero, List.set_cons_succ]
              refine wpAnyH_ready (rs := [9]) (by kernel_rfl) (by simp) ?_
              refine AllReadyH.cons (o := ?o9q53) ?ho9q53 (fun K hK => ?st9q53) ?mo9q53
              case ho9q53 => (simp only [List.getElem?_toArray, List.getElem?_cons_zero, List.getElem?_cons_succ]; rfl)
              · skip
                have hq := Hq52.out.cellsB
                obtain ⟨x0, x1, x2, x3, x4, x5, x6, x7, x8⟩ := hq.1
                obtain ⟨y0, y1, y2, y3, y4, y5, y6, y7, y8⟩ := hq.2
                clear hq
                try unfold LV.val
                go_simp
                have Hq53 := Lib.hid Hq52.out.putB
                unfold nine at Hq53
                clear x0 x1 x2 x3 x4 x5 x6 x7 x8 y0 y1 y2 y3 y4 y5 y6 y7 y8
                generalize World.setCell _ _ _ = wq53 at Hq53 ⊢
                refine hK.out _ _ Hq53.out.held (fun _ => ?_)
                clear hK K
                try simp only [Act.put, List.setIfInBounds_toArray, List.set_cons_zero, List.set_cons_succ]
                refine wpAnyH_done (by kernel_rfl) ?_ _
                go_wp2_with fail
                go_meet
                exact ⟨_, _, rA, rB, rfl, rfl, Hq53⟩
              exact AllReadyH.nil
            exact AllReadyH.nil
          exact AllReadyH.nil
        exact AllReadyH.nil
      refine AllReadyH.cons (o := ?o6q54) ?ho6q54 (fun K hK => ?st6q54) ?mo6q54
      case ho6q54 => (simp only [List.getElem?_toArray, List.getElem?_cons_zero, List.getElem?_cons_succ]; rfl)
      · skip
        go_simp
        have Hq54 := Lib.hid Hq44.out.newA
        obtain ⟨wq54, hwq54⟩ : ∃ x, x = wq44.alloc (.cells #[.bool false, .bool false, .int .i64 0, .slice none 0 0, .int .i64 0, .int .u8 0, .int .u8 0, .int .u8 0, .int .u8 0] 87) := ⟨_, rfl⟩
        rw [← hwq54] at Hq54 ⊢
        clear hwq54
        refine hK.out _ _ Hq54.out.held (fun _ => ?_)
        clear hK K
        try simp only [Act.put, List.setIfInBounds_toArray, List.set_cons_zero, List.set_cons_succ]
        refine wpAnyH_ready (rs := [2]) (by kernel_rfl) (by simp) ?_
        refine AllReadyH.cons (o := ?o2q55) ?ho2q55 (fun K hK => ?st2q55) ?mo2q55
        case ho2q55 => (simp only [List.getElem?_toArray, List.getElem?_cons_zero, List.getElem?_cons_succ]; rfl)
        · skip
          go_simp
          refine (HLA.out _ Hq54.out.bw).mono ?_
          rintro _ wq55 ⟨rA, rfl, hv, hb⟩
          have Hq55 := Lib.hid (Hq54.out.lookA hb hv)
          clear hv hb
          refine hK.out _ _ Hq55.out.held (fun _ => ?_)
          clear hK K
          try simp only [Act.put, List.setIfInBounds_toArray, List.set_cons_zero, List.set_cons_succ]
          refine wpAnyH_ready (rs := [5]) (by kernel_rfl) (by simp) ?_
          refine AllReadyH.cons (o := ?o5q56) ?ho5q56 (fun K hK => ?st5q56) ?mo5q56
          case ho5q56 => (simp only [List.getElem?_toArray, List.getElem?_cons_zero, List.getElem?_cons_succ]; rfl)
          · skip
            go_simp
            refine (HLB.out _ Hq55.out.bw).mono ?_
            rintro _ wq56 ⟨rB, rfl, hv, hb⟩
            have Hq56 := Lib.hid (Hq55.out.lookB hb hv)
            clear hv hb
            refine hK.out _ _ Hq56.out.held (fun _ => ?_)
            clear hK K
            try simp only [Act.put, List.setIfInBounds_toArray, List.set_cons_zero, List.set_cons_succ]
            refine wpAnyH_ready (rs := [8]) (by kernel_rfl) (by simp) ?_
            refine AllReadyH.cons (o := ?o8q57) ?ho8q57 (fun K hK => ?st8q57) ?mo8q57
            case ho8q57 => (simp only [List.getElem?_toArray, List.getElem?_cons_zero, List.getElem?_cons_succ]; rfl)
            · skip
              have hq := Hq56.out.cellsA
              obtain ⟨x0, x1, x2, x3, x4, x5, x6, x7, x8⟩ := hq.1
              obtain ⟨y0, y1, y2, y3, y4, y5, y6, y7, y8⟩ := hq.2
              clear hq
              try unfold LV.val
              go_simp
              have Hq57 := Lib.hid Hq56.out.putA
              unfold nine at Hq57
              clear x0 x1 x2 x3 x4 x5 x6 x7 x8 y0 y1 y2 y3 y4 y5 y6 y7 y8
              generalize World.setCell _ _ _ = wq57 at Hq57 ⊢
              refine hK.out _ _ Hq57.out.held (fun _ => ?_)
              clear hK K
              try simp only [Act.put, List.setIfInBounds_toArray, List.set_cons_zero, List.set_cons_succ]
              refine wpAnyH_ready (rs := [9]) (by kernel_rfl) (by simp) ?_
              refine AllReadyH.cons (o := ?o9q58) ?ho9q58 (fun K hK => ?st9q58) ?mo9q58
              case ho9q58 => (simp only [List.getElem?_toArray, List.getElem?_cons_zero, List.getElem?_cons_succ]; rfl)
              · skip
                have hq := Hq57.out.cellsB
                obtain ⟨x0, x1, x2, x3, x4, x5, x6, x7, x8⟩ := hq.1
                obtain ⟨y0, y1, y2, y3, y4, y5, y6, y7, y8⟩ := hq.2
                clear hq
                try unfold LV.val
                go_simp
                have Hq58 := Lib.hid Hq57.out.putB
                unfold nine at Hq58
                clear x0 x1 x2 x3 x4 x5 x6 x7 x8 y0 y1 y2 y3 y4 y5 y6 y7 y8
                generalize World.setCell _ _ _ = wq58 at Hq58 ⊢
                refine hK.out _ _ Hq58.out.held (fun _ => ?_)
                clear hK K
                try simp only [Act.put, List.setIfInBounds_toArray, List.set_cons_zero, List.set_cons_succ]
                refine wpAnyH_done (by kernel_rfl) ?_ _
                go_wp2_with fail
                go_meet
                exact ⟨_, _, rA, rB, rfl, rfl, Hq58⟩
              exact AllReadyH.nil
            exact AllReadyH.nil
          exact AllReadyH.nil
        exact AllReadyH.nil
      exact AllReadyH.nil
    exact AllReadyH.nil
    -- ENDORDERS
  clear HS2 HLA HLB
  obtain ⟨qa, qb, ra, rb, rfl, rfl, HP⟩ := hcut
  obtain ⟨hqa, ra', hra, hBa⟩ := HP.out.na qa rfl
  obtain ⟨hqb, rb', hrb, hBb⟩ := HP.out.nb qb rfl
  rw [if_pos rfl] at hra hrb
  injection hra with hra
  injection hrb with hrb
  subst hra hrb
  have HLA := Lib.hid (HP.out.la _ rfl)
  have HLB := Lib.hid (HP.out.lb _ rfl)
  obtain ⟨⟨a0, a1, a2, a3, a4, a5, a6, a7, a8⟩, _⟩ := lv_cells hBa
  obtain ⟨⟨b0, b1, b2, b3, b4, b5, b6, b7, b8⟩, _⟩ := lv_cells hBb
  obtain ⟨⟨r0, r1, r2, r3, r4, r5, r6, r7, r8⟩, ⟨s0, s1, s2, s3, s4, s5, s6, s7, s8⟩⟩ := lv_cells HP.out.res
  have HFIN : Hid (∀ r : LV, Blk (nine wc (w.heap.size + 1) r) (w.heap.size + 1) 87 r.cells ∧ Below w.heap.size w (nine wc (w.heap.size + 1) r) ∧ LkV (nine wc (w.heap.size + 1) r) w.heap.size f.a ra ∧ LkV (nine wc (w.heap.size + 1) r) w.heap.size f.b rb) := Lib.hid fun r => by
    obtain ⟨h1, hc⟩ := nine_blk HP.out.res r
    have off : ∀ g, (IsT wc 34 g ∨ IsT wc 5 g) → ¬ g = w.heap.size + 1 := fun g ht e => by
      subst e
      exact ht.elim (fun h => absurd (h.eq_ HP.out.res.isT) (by decide)) (fun h => absurd (h.eq_ HP.out.res.isT) (by decide))
    exact ⟨h1, HP.out.bw.trans (hc.to_below HP.out.bw.size fun k e => by omega), HLA.out.chgT hc fun g _ => off g, HLB.out.chgT hc fun g _ => off g⟩
  have HFD : Hid (∀ r : LV, Blk (nine wc (w.heap.size + 1) r).drew (w.heap.size + 1) 87 r.cells ∧ Below w.heap.size w (nine wc (w.heap.size + 1) r).drew ∧ LkV (nine wc (w.heap.size + 1) r).drew w.heap.size f.a ra ∧ LkV (nine wc (w.heap.size + 1) r).drew w.heap.size f.b rb) := Lib.hid fun r => by
    obtain ⟨h1, h2, h3, h4⟩ := HFIN.out r
    exact ⟨h1.drew, below_drewN h2 1, h3.below (below_drewN (Below.refl _ _) 1), h4.below (below_drewN (Below.refl _ _) 1)⟩
  clear hBa hBb hqa hqb
  cases ha : ra.so with
  | false =>
    rw [ha] at a0
    cases hb : rb.so with
    | false =>
      rw [hb] at b0
      go_wp2_with fail
      refine bodyPost_ret (pickResults (-1) _ _ _ LV.zero rfl rfl (HFIN.out LV.zero).1) rfl ?_
      obtain ⟨h1, h2, h3, h4⟩ := HFIN.out LV.zero
      exact picked_n h2 h3 h4 ha hb
    | true =>
      rw [hb] at b0
      go_wp2_with fail
      refine region_tail 2 (by kernel_rfl) (by kernel_rfl) ?_
      simp only [List.take_succ_cons, List.take_zero, List.drop_succ_cons, List.drop_zero]
      repeat still_step
      refine wpStill_nil ?_
      go_wp2
      have hF := HFD.out rb
      unfold nine at hF
      rw [hb] at hF
      exact bodyPost_ret (pickResults 1 _ _ _ rb rfl rfl hF.1) rfl (picked_1 hF.2.1 hF.2.2.1 hF.2.2.2 hb (.inl ha))
  | true =>
    rw [ha] at a0
    cases hb : rb.so with
    | false =>
      rw [hb] at b0
      go_wp2_with fail
      refine region_tail 2 (by kernel_rfl) (by kernel_rfl) ?_
      simp only [List.take_succ_cons, List.take_zero, List.drop_succ_cons, List.drop_zero]
      repeat still_step
      refine wpStill_nil ?_
      go_wp2
      have hF := HFD.out ra
      unfold nine at hF
      rw [ha] at hF
      exact bodyPost_ret (pickResults 0 _ _ _ ra rfl rfl hF.1) rfl (picked_0 hF.2.1 hF.2.2.1 hF.2.2.2 ha (.inl hb))
    | true =>
      rw [hb] at b0
      by_cases hg : ra.gn < rb.gn
      · have dg : decide (ra.gn < rb.gn) = true := by simpa using hg
        go_wp2_with fail
        refine region_tail 2 (by kernel_rfl) (by kernel_rfl) ?_
        simp only [List.take_succ_cons, List.take_zero, List.drop_succ_cons, List.drop_zero]
        repeat still_step
        refine wpStill_nil ?_
        go_wp2
        have hF := HFD.out rb
        unfold nine at hF
        rw [hb] at hF
        exact bodyPost_ret (pickResults 1 _ _ _ rb rfl rfl hF.1) rfl (picked_1 hF.2.1 hF.2.2.1 hF.2.2.2 hb (.inr hg))
      · have dg : decide (ra.gn < rb.gn) = false := by simpa using hg
        go_wp2_with fail
        refine region_tail 2 (by kernel_rfl) (by kernel_rfl) ?_
        simp only [List.take_succ_cons, List.take_zero, List.drop_succ_cons, List.drop_zero]
        repeat still_step
        refine wpStill_nil ?_
        go_wp2
        have hF := HFD.out ra
        unfold nine at hF
        rw [ha] at hF
        exact bodyPost_ret (pickResults 0 _ _ _ ra rfl rfl hF.1) rfl (picked_0 hF.2.1 hF.2.2.1 hF.2.2.2 ha (.inr (by omega)))
end Go.Proofs.YtpkdalpjfcopbaaDoor
