/-
  What the journal hands out: writes, records; the journal itself in memory.
-/
import Derived.Test.YtpkdalpjfcopbaaDoorKBeginW
namespace Go.Proofs.YtpkdalpjfcopbaaDoor
open Go.RowKit
/-- Bytes with memory of their own, perhaps from the midst of a row. -/
def ByO (w : World) (base : Nat) (A : Option Addr) (n cap : Nat) (bs : List UInt8) : Prop :=
  ∃ (g o : Nat) (pre : List UInt8), A = some ⟨g, o, none⟩ ∧ pre.length = o ∧ bs.length = n ∧ 0 < n ∧ w.ownsRow base 5 1 (.slice (some ⟨g, 0, none⟩) (o + n) (o + cap)) (o + n) (bvs (pre ++ bs))
/-- One write or none, as the program hands it out. -/
def WOut (w : World) (base : Nat) (v : Value) (ws : List Wr) : Prop :=
  (ws = [] ∧ v = .slice none 0 0) ∨ ∃ x g1 A cap, ws = [x] ∧ v = .slice (some ⟨g1, 0, none⟩) 1 1 ∧ base ≤ g1 ∧ Blk w g1 94 #[.int .i64 x.file, .bool x.start, .slice A x.bs.length cap] ∧ ByO w base A x.bs.length cap x.bs
section
variable {w w' : World} {base base' n cap : Nat} {A : Option Addr} {bs : List UInt8} {v : Value} {ws : List Wr} {S : Nat → Prop}
theorem ByO.rd (h : ByO w base A n cap bs) : RdB w w.heap.size A n bs ∧ n ≤ cap := by
  obtain ⟨g, o, pre, rfl, rfl, rfl, h0, ho⟩ := h
  have h1 := own_from ho h0
  rw [bvs_append, List.drop_left' (bvs_length pre)] at h1
  obtain ⟨_, _, _, _, _, hle, _⟩ := own_parts ho (by omega)
  obtain ⟨_, _, he, hc, _⟩ := own_shape ho
  injection he with e1 e2 e3
  exact ⟨h1, by omega⟩
theorem ByO.lt (h : ByO w base A n cap bs) : ∃ g o cur, A = some ⟨g, o, none⟩ ∧ base ≤ g ∧ Blk w g 5 cur := by
  obtain ⟨g, o, pre, rfl, _, _, h0, ho⟩ := h
  obtain ⟨h1, h2, cur, h3⟩ := own_block_lt ho (g := g) rfl
  exact ⟨g, o, cur, rfl, h2, h3⟩
theorem ByO.chg (h : ByO w base A n cap bs) (hc : Chg S w w') (hS : ∀ g o, A = some ⟨g, o, none⟩ → ¬ S g) : ByO w' base A n cap bs := by
  obtain ⟨g, o, pre, rfl, h1, h2, h3, ho⟩ := h
  exact ⟨g, o, pre, rfl, h1, h2, h3, own_chg ho hc fun g' e => by
    simp only [Value.ownBlock, Option.some.injEq] at e
    subst e
    exact hS _ _ rfl⟩
theorem ByO.below (h : ByO w base A n cap bs) (hb : Below w.heap.size w w') : ByO w' base A n cap bs := h.chg (Chg.of_below hb (fun _ => False)) fun _ _ _ h => h
theorem ByO.mono (h : ByO w base A n cap bs) (hb : base' ≤ base) : ByO w base' A n cap bs := by
  obtain ⟨g, o, pre, h0, h1, h2, h3, ho⟩ := h
  exact ⟨g, o, pre, h0, h1, h2, h3, own_base ho hb⟩
theorem WOut.nil : WOut w base (.slice none 0 0) [] := .inl ⟨rfl, rfl⟩
theorem WOut.chg (h : WOut w base v ws) (hc : Chg S w w') (hS : ∀ g, base ≤ g → g < w.heap.size → ¬ S g) : WOut w' base v ws := by
  rcases h with h | ⟨x, g1, A, cap, h1, h2, h3, hB, h4⟩
  · exact .inl h
  · refine .inr ⟨x, g1, A, cap, h1, h2, h3, hB.chg hc (hS _ h3 hB.lt), h4.chg hc fun g o e => ?_⟩
    obtain ⟨g', o', cur, e', hb, hB'⟩ := h4.lt
    rw [e] at e'
    injection e' with e'
    injection e' with e1 _
    subst e1
    exact hS _ hb hB'.lt
theorem WOut.below (h : WOut w base v ws) (hb : Below w.heap.size w w') : WOut w' base v ws := h.chg (Chg.of_below hb (fun _ => False)) fun _ _ _ h => h
theorem WOut.mono (h : WOut w base v ws) (hb : base' ≤ base) : WOut w base' v ws := by
  rcases h with h | ⟨x, g1, A, cap, h1, h2, h3, hB, h4⟩
  · exact .inl h
  · exact .inr ⟨x, g1, A, cap, h1, h2, by omega, hB, h4.mono hb⟩
/-- The writes as Apply reads them. -/
theorem WOut.wsAt (h : WOut w base v ws) : ∃ A n cap, v = .slice A n cap ∧ WsAt w A n ws := by
  rcases h with ⟨rfl, rfl⟩ | ⟨x, g1, A, cap, rfl, rfl, h3, hB, h4⟩
  · exact ⟨none, 0, 0, rfl, rfl, fun k x h => by simp at h⟩
  · refine ⟨_, 1, 1, rfl, rfl, fun k y hk => ?_⟩
    have : k = 0 := by
      have := (List.getElem?_eq_some_iff.1 hk).1
      simp at this
      omega
    subst this
    simp only [List.getElem?_cons_zero, Option.some.injEq] at hk
    subst hk
    exact ⟨g1, 0, A, cap, rfl, hB.lt, hB.cell 0, hB.cell 1, hB.cell 2, h4.rd.1, h4.rd.2⟩
end
/-- The program's journal in memory. -/
structure PJAt (w : World) (jg : Nat) (j : JP) : Prop where
  blk : ∃ s, Blk w jg 96 (jcs (j.file : Int) (j.gen : Int) ((j.text.length : Nat) : Int) s) ∧ last4 j.text = sl s
section
variable {w w' : World} {jg : Nat} {j : JP} {S : Nat → Prop}
theorem PJAt.chg (h : PJAt w jg j) (hc : Chg S w w') (hS : ¬ S jg) : PJAt w' jg j := by
  obtain ⟨s, h1, h2⟩ := h.blk
  exact ⟨s, h1.chg hc hS, h2⟩
theorem PJAt.below (h : PJAt w jg j) (hb : Below w.heap.size w w') : PJAt w' jg j := h.chg (Chg.of_below hb (fun _ => False)) fun h => h
theorem PJAt.isT (h : PJAt w jg j) : IsT w 96 jg := by
  obtain ⟨s, h1, _⟩ := h.blk
  exact h1.isT
theorem PJAt.lt (h : PJAt w jg j) : jg < w.heap.size := h.isT.lt
end
/-- A record in memory, its body's list. -/
structure Rk where
  rc : Rc
  v : Value
def Rk.cells (r : Rk) : List Value := [.int .i64 r.rc.kind, r.v]
def rowsK (K : List Rk) : List Value := (K.map Rk.cells).flatten
theorem rowsK_snoc (K : List Rk) (r : Rk) : rowsK (K ++ [r]) = rowsK K ++ r.cells := by simp [rowsK]
theorem rowsK_length (K : List Rk) : (rowsK K).length = 2 * K.length := by
  induction K with
  | nil => rfl
  | cons r K ih =>
    have e : rowsK (r :: K) = r.cells ++ rowsK K := by simp [rowsK]
    rw [e, List.length_append, ih]
    simp [Rk.cells]
    omega
theorem rowsK_at {K : List Rk} {k : Nat} {r : Rk} (hk : K[k]? = some r) (j : Nat) (hj : j < 2) : (rowsK K)[k * 2 + j]? = r.cells[j]? := by
  induction K generalizing k with
  | nil => simp at hk
  | cons q K ih =>
    cases k with
    | zero =>
      simp only [List.getElem?_cons_zero, Option.some.injEq] at hk
      subst hk
      have e : rowsK (q :: K) = q.cells ++ rowsK K := by simp [rowsK]
      rw [e, Nat.zero_mul, Nat.zero_add, List.getElem?_append_left (by simp [Rk.cells]; omega)]
    | succ k =>
      rw [List.getElem?_cons_succ] at hk
      have e : rowsK (q :: K) = q.cells ++ rowsK K := by simp [rowsK]
      rw [e, List.getElem?_append_right (by simp [Rk.cells]; omega), ← ih hk]
      congr 1
      simp [Rk.cells]
      omega
/-- A list of records with memory of its own, each body with its own. -/
structure RcOwn (w : World) (base : Nat) (v : Value) (K : List Rk) : Prop where
  own : w.ownsRow base 34 2 v K.length (rowsK K)
  bod : ∀ (k : Nat) (r : Rk), K[k]? = some r → w.ownsRow base 5 1 r.v r.rc.body.length (bvs r.rc.body)
  pw : ∀ (k k' : Nat) (r r' : Rk) (g : Nat), K[k]? = some r → K[k']? = some r' → r.v.ownBlock = some g → r'.v.ownBlock = some g → k = k'
section
variable {w w' : World} {base base' : Nat} {v : Value} {K : List Rk} {S F : Nat → Prop}
theorem RcOwn.nil : RcOwn w base (.slice none 0 0) [] := ⟨⟨by simp [rowsK], .inl ⟨rfl, rfl⟩⟩, fun k r h => by simp at h, fun k k' r r' g h => by simp at h⟩
theorem RcOwn.chg (h : RcOwn w base v K) (hc : Chg S w w') (hS : ∀ g, base ≤ g → g < w.heap.size → ¬ S g) : RcOwn w' base v K :=
  ⟨own_chg h.own hc fun g hg => hS g (own_block_lt h.own hg).2.1 (own_block_lt h.own hg).1, fun k r hk => own_chg (h.bod k r hk) hc fun g hg => hS g (own_block_lt (h.bod k r hk) hg).2.1 (own_block_lt (h.bod k r hk) hg).1, h.pw⟩
theorem RcOwn.below (h : RcOwn w base v K) (hb : Below w.heap.size w w') : RcOwn w' base v K := h.chg (Chg.of_below hb (fun _ => False)) fun _ _ _ h => h
theorem RcOwn.mono (h : RcOwn w base v K) (hb : base' ≤ base) : RcOwn w base' v K := ⟨own_base h.own hb, fun k r hk => own_base (h.bod k r hk) hb, h.pw⟩
theorem RcOwn.shape (h : RcOwn w base v K) : ∃ A cap, v = .slice A K.length cap ∧ K.length ≤ cap ∧ cap ≤ maxLen := own_shape h.own
/-- What is read of it. -/
theorem RcOwn.rd {A : Option Addr} {cap : Nat} (h : RcOwn w base (.slice A K.length cap) K) (hF : ∀ g, base ≤ g → g < w.heap.size → ¬ F g) : RcRd w F A K.length (K.map Rk.rc) := by
  refine ⟨by simp, fun k r hk => ?_⟩
  rw [List.getElem?_map, Option.map_eq_some_iff] at hk
  obtain ⟨x, hk, rfl⟩ := hk
  have hlt := (List.getElem?_eq_some_iff.1 hk).1
  obtain ⟨q, cap', cur, hv, hb, hB, _, _, h1, h2⟩ := own_parts h.own (by omega)
  simp only [Value.slice.injEq, true_and] at hv
  obtain ⟨rfl, rfl⟩ := hv
  have key : ∀ j, j < 2 → w.cell? ⟨q, k * 2 + j, none⟩ = x.cells[j]? := fun j hj => by
    rw [hB.cell, ← rowsK_at hk j hj, ← h2, List.getElem?_take, if_pos (by omega), Array.getElem?_toList]
  have ho := h.bod k x hk
  obtain ⟨bA, bc, e, hle, _⟩ := own_shape ho
  have hk1 := key 1 (by omega)
  have hk0 := key 0 (by omega)
  simp only [Rk.cells, List.getElem?_cons_zero, List.getElem?_cons_succ] at hk0 hk1
  rw [e] at hk1 ho
  refine ⟨q, 0, bA, bc, rfl, hB.lt, hF q hb hB.lt, by rw [Nat.zero_add]; exact hk0, by rw [Nat.zero_add]; exact hk1, Rd.of_own ho, hle, fun h0 b o s e2 => ?_⟩
  obtain ⟨b', off, e3, _⟩ := (Rd.of_own ho).at_ h0
  obtain ⟨gg, cc, cr, hv2, hb2, hB2, _⟩ := own_parts ho h0
  injection hv2 with hv2
  rw [e2] at hv2
  injection hv2 with hv2
  injection hv2 with e4
  subst e4
  exact hF _ hb2 hB2.lt
/-- One more record. -/
theorem RcOwn.snoc (h : RcOwn w base v K) {v2 : Value} {x : Rk} (hc : Chg (fun k => some k = v.ownBlock) w w') (hw : w'.ownsRow base 34 2 v2 (K.length + 1) (rowsK K ++ x.cells)) (hx : w.ownsRow base 5 1 x.v x.rc.body.length (bvs x.rc.body)) (hn : ∀ (k : Nat) (r : Rk) (g : Nat), K[k]? = some r → r.v.ownBlock = some g → x.v.ownBlock = some g → False) : RcOwn w' base v2 (K ++ [x]) := by
  have off : ∀ {u : Value} {n : Nat} {xs : List Value}, w.ownsRow base 5 1 u n xs → ∀ g, u.ownBlock = some g → ¬ some g = v.ownBlock := fun ho g hg e => by
    have := (own_isT ho hg).eq_ (own_isT h.own e.symm)
    exact absurd this (by decide)
  have cases_ : ∀ {k : Nat} {r : Rk}, (K ++ [x])[k]? = some r → K[k]? = some r ∨ (k = K.length ∧ r = x) := fun {k r} hk => by
    rcases Nat.lt_or_ge k K.length with hlt | hge
    · rw [List.getElem?_append_left hlt] at hk
      exact .inl hk
    · rw [List.getElem?_append_right hge] at hk
      have : k - K.length = 0 := by
        have := (List.getElem?_eq_some_iff.1 hk).1
        simp at this
        omega
      rw [this] at hk
      simp at hk
      exact .inr ⟨by omega, hk.symm⟩
  refine ⟨by rw [rowsK_snoc, List.length_append]; exact hw, fun k r hk => ?_, fun k k' r r' g hk hk' hg hg' => ?_⟩
  · rcases cases_ hk with hk | ⟨_, rfl⟩
    · exact own_chg (h.bod k r hk) hc (off (h.bod k r hk))
    · exact own_chg hx hc (off hx)
  · rcases cases_ hk with h1 | ⟨e1, e2⟩ <;> rcases cases_ hk' with h3 | ⟨e3, e4⟩
    · exact h.pw k k' r r' g h1 h3 hg hg'
    · subst e4
      exact (hn k r g h1 hg hg').elim
    · subst e2
      exact (hn k' r' g h3 hg' hg).elim
    · omega
end
end Go.Proofs.YtpkdalpjfcopbaaDoor
