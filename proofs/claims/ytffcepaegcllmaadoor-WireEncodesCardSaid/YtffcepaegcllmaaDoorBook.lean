/-
  The book: its pages of bytes and of ints, as shelves. What is kept of them over changes; Intact.
-/
import Derived.Test.YtffcepaegcllmaaDoorPageB
import Derived.Test.YtffcepaegcllmaaDoorPageI
import Derived.Deep.RegionHeld3
import Derived.Deep.AppendLies
import Derived.Test.YtffcepaegcllmaaDoorTy
namespace Go.Proofs.YtffcepaegcllmaaDoor
open Go.RowKit

/-- A page: what it shows; st: 0 kept untouched, 1 written full, 2 grown too. -/
structure Pg where
  bv : Value
  n : Nat
  bs : List Value
  gv : Value
  wv : Value
  id : Int
  st : Nat
def Pg.cells (p : Pg) : List Value := [p.bv, p.gv, p.wv, .int .i64 p.id, .bool (p.st != 0)]
def Pg.blks (p : Pg) (g : Nat) : Prop := p.bv.ownBlock = some g ∨ (p.st = 0 ∧ p.wv.ownBlock = some g) ∨ (p.st = 2 ∧ p.gv.ownBlock = some g)
def Apart (p q : Pg) : Prop := ∀ g, p.blks g → ¬ q.blks g

/-- The two sorts of pages: the elements' type, the page's, the marks, what a list is. -/
structure Sort2 where
  E : TypeId
  T : TypeId
  mark : Int → Nat → List Value
  Ok : List Value → Prop
  lim : Nat
  ne : T ≠ E
  mkok : ∀ id n, Ok (mark id n)
abbrev KB : Sort2 := ⟨5, 95, bpl, fun l => ∃ bs, l = bvs bs, 140737488355328, by decide, fun id n => ⟨pats id n, rfl⟩⟩
abbrev KI : Sort2 := ⟨3, 97, ipl, fun l => ∃ is, l = ivs is, 17592186044416, by decide, fun id n => ⟨patIs id n, rfl⟩⟩
structure PgOk (K : Sort2) (w : World) (p : Pg) : Prop where
  own : w.ownsRow 0 K.E 1 p.bv p.n p.bs
  small : p.n + 64 ≤ K.lim
  id0 : 0 ≤ p.id
  id1 : p.id ≤ 1000
  bytes : K.Ok p.bs
  kept : p.st = 0 → w.ownsRow 0 K.E 1 p.wv p.n p.bs
  full : p.st ≠ 0 → p.bs = K.mark p.id p.n
  grown : p.st = 2 → w.ownsRow 0 K.E 1 p.gv (p.n + 64) (p.bs ++ K.mark (p.id + 100000) 64)
  agg : p.st ≤ 2
  gsl : ∃ A n c, p.gv = .slice A n c
  wsl : ∃ A n c, p.wv = .slice A n c
/-- One sort of pages: their row, its place and theirs (FP: the blocks that are the book's). -/
structure ShelfIs (K : Sort2) (w : World) (FP : Nat → Prop) (ps : List Pg) (pv : Value) : Prop where
  rows : w.ownsRow 0 K.T 5 pv ps.length (ps.flatMap Pg.cells)
  fr : ∀ g, pv.ownBlock = some g → FP g
  pages : ∀ p ∈ ps, PgOk K w p
  fp : ∀ p ∈ ps, ∀ g, p.blks g → FP g
  apart : ps.Pairwise Apart
structure BookIs (w : World) (FP : Nat → Prop) (gb : Nat) (ps qs : List Pg) (next : Int) (pv iv : Value) : Prop where
  blk : Blk w gb 52 #[pv, iv, .int .i64 next]
  new : ∀ k, w.heap.size ≤ k → FP k
  fpb : FP gb
  B : ShelfIs KB w FP ps pv
  I : ShelfIs KI w FP qs iv

theorem cells_at (ps : List Pg) (k j : Nat) (p : Pg) (h : ps[k]? = some p) (hj : j < 5) : (ps.flatMap Pg.cells)[k * 5 + j]? = p.cells[j]? := by
  induction ps generalizing k with
  | nil => simp at h
  | cons q ps ih =>
    cases k with
    | zero =>
      simp only [List.getElem?_cons_zero, Option.some.injEq] at h
      subst h
      rw [List.flatMap_cons, List.getElem?_append_left (by simp [Pg.cells]; omega)]
      simp
    | succ k =>
      rw [List.getElem?_cons_succ] at h
      rw [List.flatMap_cons, List.getElem?_append_right (by simp [Pg.cells]; omega), ← ih k h]
      congr 1
      simp [Pg.cells]
      omega
section
variable {w w' : World} {K : Sort2} {FP : Nat → Prop} {ps qs : List Pg} {pv iv : Value} {gb : Nat} {next : Int} {S : Nat → Prop}
theorem PgOk.keep {p : Pg} (h : PgOk K w p) (hc : Chg S w w') (hS : ∀ g, p.blks g → ¬ S g) : PgOk K w' p where
  own := own_chg h.own hc fun g hg => hS g (.inl hg)
  small := h.small
  id0 := h.id0
  id1 := h.id1
  bytes := h.bytes
  kept := fun hs => own_chg (h.kept hs) hc fun g hg => hS g (.inr (.inl ⟨hs, hg⟩))
  full := h.full
  grown := fun hs => own_chg (h.grown hs) hc fun g hg => hS g (.inr (.inr ⟨hs, hg⟩))
  agg := h.agg
  gsl := h.gsl
  wsl := h.wsl
/-- A page's blocks: of the elements, old. -/
theorem PgOk.blk_lt {p : Pg} (h : PgOk K w p) {g : Nat} (hg : p.blks g) : g < w.heap.size ∧ 0 ≤ g ∧ ∃ cur, Blk w g K.E cur := by
  rcases hg with hg | ⟨hs, hg⟩ | ⟨hs, hg⟩
  · exact own_block_lt h.own hg
  · exact own_block_lt (h.kept hs) hg
  · exact own_block_lt (h.grown hs) hg
theorem PgOk.blk_isT {p : Pg} (h : PgOk K w p) {g : Nat} (hg : p.blks g) : IsT w K.E g := by
  obtain ⟨_, _, c, hB⟩ := h.blk_lt hg
  exact hB.isT
theorem ShelfIs.chg (h : ShelfIs K w FP ps pv) (hc : Chg S w w') (hS : ∀ g, FP g → g < w.heap.size → (IsT w K.E g ∨ IsT w K.T g) → ¬ S g) : ShelfIs K w' FP ps pv where
  rows := own_chg h.rows hc fun g hg => hS g (h.fr g hg) (own_block_lt h.rows hg).1 (.inr (own_isT h.rows hg))
  fr := h.fr
  pages := fun p hp => (h.pages p hp).keep hc fun g hg => hS g (h.fp p hp g hg) ((h.pages p hp).blk_lt hg).1 (.inl ((h.pages p hp).blk_isT hg))
  fp := h.fp
  apart := h.apart
/-- A change of blocks that are not the book's, or of other types. -/
theorem BookIs.chg (h : BookIs w FP gb ps qs next pv iv) (hc : Chg S w w')
    (hS : ∀ g, FP g → g < w.heap.size → (IsT w 52 g ∨ IsT w 95 g ∨ IsT w 97 g ∨ IsT w 5 g ∨ IsT w 3 g) → ¬ S g) : BookIs w' FP gb ps qs next pv iv where
  blk := h.blk.chg hc (hS gb h.fpb h.blk.lt (.inl h.blk.isT))
  new := fun k hk => h.new k (Nat.le_trans hc.size hk)
  fpb := h.fpb
  B := h.B.chg hc fun g hg hl ht => hS g hg hl (ht.elim (fun t => .inr (.inr (.inr (.inl t)))) fun t => .inr (.inl t))
  I := h.I.chg hc fun g hg hl ht => hS g hg hl (ht.elim (fun t => .inr (.inr (.inr (.inr t)))) fun t => .inr (.inr (.inl t)))
theorem BookIs.below (h : BookIs w FP gb ps qs next pv iv) (hb : Below w.heap.size w w') : BookIs w' FP gb ps qs next pv iv :=
  h.chg (Chg.of_below hb (fun _ => False)) fun _ _ _ _ => id

/-- The cells of page k, in whatever world holds the rows. -/
theorem ShelfIs.page (h : ShelfIs K w FP ps pv) {k : Nat} (hk : k < ps.length) :
    ∃ gP cap cur p, pv = .slice (some ⟨gP, 0, none⟩) ps.length cap ∧ FP gP ∧ Blk w gP K.T cur ∧ ps[k]? = some p ∧ p ∈ ps ∧ (∀ j, j < 5 → cur[k * 5 + j]? = p.cells[j]?) ∧ ps.length * 5 ≤ cur.size ∧ cur.toList.take (ps.length * 5) = ps.flatMap Pg.cells := by
  obtain ⟨gP, cap, cur, hv, hb, hB, h1, h2, h3, h4⟩ := own_parts h.rows (by omega)
  refine ⟨gP, cap, cur, ps[k], hv, h.fr gP (by rw [hv]; rfl), hB, List.getElem?_eq_getElem hk, List.getElem_mem _, fun j hj => ?_, by rw [h3]; exact Nat.mul_le_mul_right _ h1, h4⟩
  rw [← cells_at ps k j ps[k] (List.getElem?_eq_getElem hk) hj, ← h4, ← Array.getElem?_toList, List.getElem?_take, if_pos (by omega)]
end
section
variable {w w' : World} {K : Sort2} {FP : Nat → Prop} {ps : List Pg} {pv v' : Value} {S : Nat → Prop} {q : Pg}
theorem ShelfIs.add (h : ShelfIs K w FP ps pv) (hc : Chg S w w') (hS : ∀ p ∈ ps, ∀ g, p.blks g → ¬ S g) (hop : w'.ownsRow 0 K.T 5 v' (ps.length + 1) (ps.flatMap Pg.cells ++ q.cells)) (hfr : ∀ g, v'.ownBlock = some g → FP g)
    (hq : PgOk K w' q) (hqf : ∀ g, q.blks g → FP g) (hqa : ∀ g, q.blks g → ∀ p ∈ ps, ¬ p.blks g) : ShelfIs K w' FP (ps ++ [q]) v' where
  rows := by
    rw [List.length_append, List.flatMap_append]
    simpa using hop
  fr := hfr
  pages := fun p hp => by
    rcases List.mem_append.1 hp with hp | hp
    · exact (h.pages p hp).keep hc (hS p hp)
    · simp only [List.mem_singleton] at hp
      subst hp
      exact hq
  fp := fun p hp => by
    rcases List.mem_append.1 hp with hp | hp
    · exact h.fp p hp
    · simp only [List.mem_singleton] at hp
      subst hp
      exact hqf
  apart := by
    rw [List.pairwise_append]
    refine ⟨h.apart, List.pairwise_singleton _ _, fun p hp r hr => ?_⟩
    simp only [List.mem_singleton] at hr
    subst hr
    exact fun g hg hr => hqa g hr p hp hg
end
/-- The blocks that Keep and Write turn: the book's own, and the row's. -/
def RowS (gb : Nat) (v : Value) (k : Nat) : Prop := k = gb ∨ v.ownBlock = some k

section
variable {w w' : World} {FP : Nat → Prop} {ps qs : List Pg} {pv iv bv v : Value} {gb base n : Nat} {next : Int} {xs : List Value}
theorem BookIs.rowB (h : BookIs w FP gb ps qs next pv iv) {g : Nat} (hg : RowS gb pv g) : FP g ∧ (IsT w 52 g ∨ IsT w 95 g) := by
  rcases hg with rfl | hg
  · exact ⟨h.fpb, .inl h.blk.isT⟩
  · exact ⟨h.B.fr g hg, .inr (own_isT h.B.rows hg)⟩
theorem BookIs.rowI (h : BookIs w FP gb ps qs next pv iv) {g : Nat} (hg : RowS gb iv g) : FP g ∧ (IsT w 52 g ∨ IsT w 97 g) := by
  rcases hg with rfl | hg
  · exact ⟨h.fpb, .inl h.blk.isT⟩
  · exact ⟨h.I.fr g hg, .inr (own_isT h.I.rows hg)⟩
theorem BookIs.toFP (h : BookIs w FP gb ps qs next pv iv) (hc : Chg (RowS gb pv) w w') : Chg FP w w' := hc.mono fun _ _ hg => (h.rowB hg).1
theorem BookIs.toFPI (h : BookIs w FP gb ps qs next pv iv) (hc : Chg (RowS gb iv) w w') : Chg FP w w' := hc.mono fun _ _ hg => (h.rowI hg).1
theorem BookIs.toFPW (h : BookIs w FP gb ps qs next pv iv) (hfb : ∀ g, bv.ownBlock = some g → FP g) (hc : Chg (fun k => RowS gb pv k ∨ bv.ownBlock = some k) w w') : Chg FP w w' :=
  hc.mono fun _ _ hg => hg.elim (fun hg => (h.rowB hg).1) fun hg => hfb _ hg
/-- A row of bytes over Keep; another row of bytes over Write. -/
theorem BookIs.ownK (h : BookIs w FP gb ps qs next pv iv) (hc : Chg (RowS gb pv) w w') (ho : w.ownsRow base 5 1 v n xs) : w'.ownsRow base 5 1 v n xs :=
  own_chg ho hc fun g hg hr => by
    have ht := own_isT ho hg
    rcases (h.rowB hr).2 with h' | h' <;> exact absurd (ht.eq_ h') (by decide)
theorem BookIs.ownW (h : BookIs w FP gb ps qs next pv iv) (hc : Chg (fun k => RowS gb pv k ∨ bv.ownBlock = some k) w w') (ho : w.ownsRow base 5 1 v n xs) (hne : ∀ g, v.ownBlock = some g → bv.ownBlock ≠ some g) : w'.ownsRow base 5 1 v n xs :=
  own_chg ho hc fun g hg hr => by
    have ht := own_isT ho hg
    rcases hr with hr | hr
    · rcases (h.rowB hr).2 with h' | h' <;> exact absurd (ht.eq_ h') (by decide)
    · exact hne g hg hr
theorem BookIs.empty (w : World) (FP : Nat → Prop) (h : ∀ k, w.heap.size ≤ k → FP k) : BookIs (w.alloc (.cells #[.slice none 0 0, .slice none 0 0, .int .i64 0] 52)) FP w.heap.size [] [] 0 (.slice none 0 0) (.slice none 0 0) where
  blk := Blk.new _ _ _
  new := fun k hk => h k (by simp at hk; omega)
  fpb := h _ (Nat.le_refl _)
  B := ⟨⟨by simp, .inl ⟨rfl, rfl⟩⟩, fun g hg => by simp [Value.ownBlock] at hg, fun p hp => by simp at hp, fun p hp => by simp at hp, .nil⟩
  I := ⟨⟨by simp, .inl ⟨rfl, rfl⟩⟩, fun g hg => by simp [Value.ownBlock] at hg, fun p hp => by simp at hp, fun p hp => by simp at hp, .nil⟩
end
/-- Behind a change of FP alone, below any number that FP does not reach, nothing has turned. -/
theorem Chg.belowF {FP : Nat → Prop} {N : Nat} {w w' : World} (h : Chg FP w w') (hF : ∀ k, FP k → N ≤ k) (hN : N ≤ w.heap.size) : Below N w w' := h.to_below hN hF


set_option maxRecDepth 100000 in
set_option maxHeartbeats 3200000 in
theorem Intact_any (FP : Nat → Prop) (gb : Nat) (ps qs : List Pg) (next : Int) (pv iv : Value) (w : World) (hbk : BookIs w FP gb ps qs next pv iv) (hst : ∀ p ∈ ps, p.st ≠ 1) (hsq : ∀ p ∈ qs, p.st ≠ 1) (hlen : ps.length ≤ 96) (hlenq : qs.length ≤ 96) :
    Calls Tryd.prog 16 #[.pointer (some ⟨gb, 0, none⟩)] w fun e w' => e = .returned (.bool true) ∧ Below w.heap.size w w' := by
  obtain ⟨Ap, capp, rfl, hcp, _⟩ := own_shape hbk.B.rows
  obtain ⟨Aq, capq, rfl, hcq, _⟩ := own_shape hbk.I.rows
  have hgb := hbk.blk.lt
  generalize hL : ps.length = L at *
  have HL := Lib.hid hL
  clear hL
  generalize hM : qs.length = M at *
  have HM := Lib.hid hM
  clear hM
  go_enter Tryd.func16, Tryd.ntmps16
  go_wp2_with fail
  go_loopw [3] (fun i wr => ∃ k : Nat, k ≤ L ∧ i = .int .i64 k ∧ Below w.heap.size w wr) (fun i _ => L - (intOf i).toNat)
  case atStart => exact ⟨0, by omega, rfl, Below.refl _ _⟩
  case round =>
    obtain ⟨k, hk, rfl, hb⟩ := hrel
    have hbr := hbk.below hb
    have c0 : wr.cell? ⟨gb, 0, none⟩ = some (.slice Ap L capp) := by rw [hbr.blk.cell]; rfl
    have c1 : wr.cell? ⟨gb, 1, none⟩ = some (.slice Aq M capq) := by rw [hbr.blk.cell]; rfl
    by_cases hlt : k < L
    · obtain ⟨gP, cap, cur, p, hv, hgP, hBP, hpk, hpm, hcs, hsz, _⟩ := hbr.B.page (k := k) (by rw [HL.out]; exact hlt)
      rw [HL.out] at hv
      simp only [Value.slice.injEq, true_and] at hv
      obtain ⟨rfl, rfl⟩ := hv
      have hok := hbr.B.pages p hpm
      have hs := hst p hpm
      have d0 := hBP.cell (k * 5)
      have d1 := hBP.cell (k * 5 + 1)
      have d2 := hBP.cell (k * 5 + 2)
      have d3 := hBP.cell (k * 5 + 3)
      have d4 := hBP.cell (k * 5 + 4)
      have e0 := hcs 0 (by omega)
      rw [Nat.add_zero] at e0
      rw [e0] at d0
      rw [hcs 1 (by omega)] at d1
      rw [hcs 2 (by omega)] at d2
      rw [hcs 3 (by omega)] at d3
      rw [hcs 4 (by omega)] at d4
      simp only [Pg.cells, List.getElem?_cons_zero, List.getElem?_cons_succ] at d0 d1 d2 d3 d4
      clear e0 hcs
      have hltI : (k : Int) < (L : Int) := by omega
      obtain ⟨bv, n, bs, gv, wv, id, st⟩ := p
      simp only at d0 d1 d2 d3 d4 hs
      have hown := hok.own
      have hsm := hok.small
      have hi0 := hok.id0
      have hi1 := hok.id1
      obtain ⟨xs, hxs⟩ := hok.bytes
      have hfull := hok.full
      have hkept := hok.kept
      have hgrown := hok.grown
      have hag := hok.agg
      simp only at hown hsm hi0 hi1 hxs hfull hkept hgrown hag
      clear hok
      subst hxs
      obtain ⟨Ab, capb, rfl, _, _⟩ := own_shape hown
      have hrb := Rd.of_own hown
      by_cases h0 : st = 0
      · subst h0
        have hkw := hkept rfl
        obtain ⟨Aw, capw, rfl, _, _⟩ := own_shape hkw
        have hrw := Rd.of_own hkw
        clear hkept hgrown hfull hs hag
        simp only [bne_self_eq_false] at d4
        go_wp2_with fail
        refine (showsB_kept _ _ _ _ _ _ xs _ _ hrb hrw (by omega)).mono ?_
        rintro _ w2 ⟨rfl, hb2⟩
        go_wp2
        go_roundw
        case rel => exact ⟨k + 1, by omega, by go_num, hb.trans (hb2.mono hb.size)⟩
        case measure => simp [intOf]; omega
      · have h2 : st = 2 := by omega
        subst h2
        have hfl := hfull (by decide)
        have hgr := hgrown rfl
        rw [hfl, bpl, bpl, ← bvs_append] at hgr
        obtain ⟨Ag, capg, rfl, _, _⟩ := own_shape hgr
        have hrg := Rd.of_own hgr
        have HF := Lib.hid (bvs_inj hfl)
        clear hkept hgrown hfull hs hag hfl
        simp only [show ((2 : Nat) != 0) = true from rfl] at d4
        go_wp2_with fail
        refine (showsB_grown _ _ _ _ _ _ _ xs _ _ _ hrb hrg (by omega) HF.out rfl hi0 (by omega)).mono ?_
        rintro _ w2 ⟨rfl, hb2⟩
        go_wp2
        go_roundw
        case rel => exact ⟨k + 1, by omega, by go_num, hb.trans (hb2.mono hb.size)⟩
        case measure => simp [intOf]; omega
    · obtain rfl : L = k := by omega
      go_wp2_with fail
      clear c0 c1 hbr
      go_loopw [4] (fun i wr => ∃ k : Nat, k ≤ M ∧ i = .int .i64 k ∧ Below w.heap.size w wr) (fun i _ => M - (intOf i).toNat)
      case atStart => exact ⟨0, by omega, rfl, hb⟩
      case round =>
        obtain ⟨k, hk, rfl, hb⟩ := hrel
        have hbr := hbk.below hb
        have c0 : wr.cell? ⟨gb, 0, none⟩ = some (.slice Ap L capp) := by rw [hbr.blk.cell]; rfl
        have c1 : wr.cell? ⟨gb, 1, none⟩ = some (.slice Aq M capq) := by rw [hbr.blk.cell]; rfl
        by_cases hlt : k < M
        · obtain ⟨gP, cap, cur, p, hv, hgP, hBP, hpk, hpm, hcs, hsz, _⟩ := hbr.I.page (k := k) (by rw [HM.out]; exact hlt)
          rw [HM.out] at hv
          simp only [Value.slice.injEq, true_and] at hv
          obtain ⟨rfl, rfl⟩ := hv
          have hok := hbr.I.pages p hpm
          have hs := hsq p hpm
          have d0 := hBP.cell (k * 5)
          have d1 := hBP.cell (k * 5 + 1)
          have d2 := hBP.cell (k * 5 + 2)
          have d3 := hBP.cell (k * 5 + 3)
          have d4 := hBP.cell (k * 5 + 4)
          have e0 := hcs 0 (by omega)
          rw [Nat.add_zero] at e0
          rw [e0] at d0
          rw [hcs 1 (by omega)] at d1
          rw [hcs 2 (by omega)] at d2
          rw [hcs 3 (by omega)] at d3
          rw [hcs 4 (by omega)] at d4
          simp only [Pg.cells, List.getElem?_cons_zero, List.getElem?_cons_succ] at d0 d1 d2 d3 d4
          clear e0 hcs
          have hltI : (k : Int) < (M : Int) := by omega
          obtain ⟨bv, n, bs, gv, wv, id, st⟩ := p
          simp only at d0 d1 d2 d3 d4 hs
          have hown := hok.own
          have hsm := hok.small
          have hi0 := hok.id0
          have hi1 := hok.id1
          obtain ⟨xs, hxs⟩ := hok.bytes
          have hfull := hok.full
          have hkept := hok.kept
          have hgrown := hok.grown
          have hag := hok.agg
          simp only at hown hsm hi0 hi1 hxs hfull hkept hgrown hag
          clear hok
          subst hxs
          obtain ⟨Ab, capb, rfl, _, _⟩ := own_shape hown
          have hrb := Rd.of_own hown
          by_cases h0 : st = 0
          · subst h0
            have hkw := hkept rfl
            obtain ⟨Aw, capw, rfl, _, _⟩ := own_shape hkw
            have hrw := Rd.of_own hkw
            clear hkept hgrown hfull hs hag
            simp only [bne_self_eq_false] at d4
            go_wp2_with fail
            refine (showsI_kept _ _ _ _ _ _ xs _ _ hrb hrw (by omega)).mono ?_
            rintro _ w2 ⟨rfl, hb2⟩
            go_wp2
            go_roundw
            case rel => exact ⟨k + 1, by omega, by go_num, hb.trans (hb2.mono hb.size)⟩
            case measure => simp [intOf]; omega
          · have h2 : st = 2 := by omega
            subst h2
            have hfl := hfull (by decide)
            have hgr := hgrown rfl
            rw [hfl, ipl, ipl, ← ivs_append] at hgr
            obtain ⟨Ag, capg, rfl, _, _⟩ := own_shape hgr
            have hrg := Rd.of_own hgr
            have HF := Lib.hid (ivs_inj hfl)
            clear hkept hgrown hfull hs hag hfl
            simp only [show ((2 : Nat) != 0) = true from rfl] at d4
            go_wp2_with fail
            refine (showsI_grown _ _ _ _ _ _ _ xs _ _ _ hrb hrg (by omega) HF.out rfl hi0 (by omega)).mono ?_
            rintro _ w2 ⟨rfl, hb2⟩
            go_wp2
            go_roundw
            case rel => exact ⟨k + 1, by omega, by go_num, hb.trans (hb2.mono hb.size)⟩
            case measure => simp [intOf]; omega
        · obtain rfl : M = k := by omega
          go_wp2
          go_ret
          exact ⟨rfl, hb⟩
end Go.Proofs.YtffcepaegcllmaaDoor
