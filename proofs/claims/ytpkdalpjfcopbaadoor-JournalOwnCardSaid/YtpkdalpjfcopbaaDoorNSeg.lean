/-
  JournalOwn: what was handed out, as lists of bytes between two blocks.
-/
import Derived.Test.YtpkdalpjfcopbaaDoorNPut
namespace Go.Proofs.YtpkdalpjfcopbaaDoor
open Go.RowKit
/-- Lists with room of their own, between two blocks. -/
structure Seg (w : World) (lo hi : Nat) (B : List Tv) : Prop where
  lo : ∀ (k : Nat) (e : Tv), B[k]? = some e → Lo w lo e.A e.n e.c ∧ e.n ≤ 1099511627776
  hi : ∀ (k : Nat) (e : Tv) (g : Nat), B[k]? = some e → blkO e.A e.c = some g → g < hi
  pw : ∀ (k k' : Nat) (e e' : Tv) (g : Nat), B[k]? = some e → B[k']? = some e' → blkO e.A e.c = some g → blkO e'.A e'.c = some g → k = k'
section
variable {w w' : World} {lo mid hi : Nat} {B B1 B2 : List Tv}
theorem Seg.nil (w : World) (lo hi : Nat) : Seg w lo hi [] := ⟨fun k e h => by simp at h, fun k e g h => by simp at h, fun k k' e e' g h => by simp at h⟩
theorem Seg.over (h : Seg w lo hi B) (hb : Below w.heap.size w w') : Seg w' lo hi B := ⟨fun k e he => ⟨(h.lo k e he).1.over hb, (h.lo k e he).2⟩, h.hi, h.pw⟩
theorem Seg.chg {S : Nat → Prop} (h : Seg w lo hi B) (hc : Chg S w w') (hS : ∀ g, IsT w 5 g → ¬ S g) : Seg w' lo hi B := ⟨fun k e he => ⟨(h.lo k e he).1.chg hc fun g _ _ ht => hS g ht, (h.lo k e he).2⟩, h.hi, h.pw⟩
theorem Seg.new (h : Seg w lo hi B) : New lo w B := ⟨h.lo, h.pw⟩
theorem Seg.wide {lo' hi' : Nat} (h : Seg w lo hi B) (h1 : lo' ≤ lo) (h2 : hi ≤ hi') : Seg w lo' hi' B := ⟨fun k e he => ⟨(h.lo k e he).1.mono h1, (h.lo k e he).2⟩, fun k e g he hg => Nat.lt_of_lt_of_le (h.hi k e g he hg) h2, h.pw⟩
theorem Seg.app (h1 : Seg w lo mid B1) (h2 : Seg w mid hi B2) (hl : lo ≤ mid) (hh : mid ≤ hi) : Seg w lo hi (B1 ++ B2) := by
  have split : ∀ {k : Nat} {e : Tv}, (B1 ++ B2)[k]? = some e → (k < B1.length ∧ B1[k]? = some e) ∨ (B1.length ≤ k ∧ B2[k - B1.length]? = some e) := fun {k e} he => by
    rcases Nat.lt_or_ge k B1.length with hk | hk
    · rw [List.getElem?_append_left hk] at he
      exact .inl ⟨hk, he⟩
    · rw [List.getElem?_append_right hk] at he
      exact .inr ⟨hk, he⟩
  refine ⟨fun k e he => ?_, fun k e g he hg => ?_, fun k k' e e' g he he' hg hg' => ?_⟩
  · rcases split he with ⟨_, h⟩ | ⟨_, h⟩
    · exact h1.lo _ e h
    · exact ⟨(h2.lo _ e h).1.mono hl, (h2.lo _ e h).2⟩
  · rcases split he with ⟨_, h⟩ | ⟨_, h⟩
    · exact Nat.lt_of_lt_of_le (h1.hi _ e g h hg) hh
    · exact h2.hi _ e g h hg
  · rcases split he with ⟨_, h⟩ | ⟨q1, h⟩ <;> rcases split he' with ⟨_, h'⟩ | ⟨q2, h'⟩
    · exact h1.pw _ _ e e' g h h' hg hg'
    · have a1 := h1.hi _ e g h hg
      have a2 := ((h2.lo _ e' h').1.blk hg').1
      omega
    · have a1 := h1.hi _ e' g h' hg'
      have a2 := ((h2.lo _ e h).1.blk hg).1
      omega
    · have := h2.pw _ _ e e' g h h' hg hg'
      omega
end
def tvOf : Value → Tv
  | .slice A n c => ⟨A, n, c⟩
  | _ => ⟨none, 0, 0⟩
/-- The bodies of records that were handed out. -/
def bodTv (K : List Rk) : List Tv := K.map fun r => tvOf r.v
theorem bodTv_length (K : List Rk) : (bodTv K).length = K.length := by simp [bodTv]
theorem bod_at {K : List Rk} {k : Nat} {x : Tv} (h : (bodTv K)[k]? = some x) : ∃ r, K[k]? = some r ∧ x = tvOf r.v := by
  unfold bodTv at h
  rw [List.getElem?_map, Option.map_eq_some_iff] at h
  obtain ⟨r, h1, h2⟩ := h
  exact ⟨r, h1, h2.symm⟩
theorem rc_seg {w : World} {base : Nat} {v : Value} {K : List Rk} (h : RcOwn w base v K) (hl : ∀ r ∈ K.map Rk.rc, r.body.length ≤ 65536) : Seg w base w.heap.size (bodTv K) := by
  have one : ∀ {k : Nat} {r : Rk}, K[k]? = some r → ∃ A c, r.v = .slice A r.rc.body.length c ∧ w.ownsRow base 5 1 (.slice A r.rc.body.length c) r.rc.body.length (bvs r.rc.body) := fun {k r} hk => by
    have ho := h.bod k r hk
    obtain ⟨A, c, e, _, _⟩ := own_shape ho
    exact ⟨A, c, e, e ▸ ho⟩
  refine ⟨fun k e he => ?_, fun k e g he hg => ?_, fun k k' e e' g he he' hg hg' => ?_⟩
  · obtain ⟨r, hk, rfl⟩ := bod_at he
    obtain ⟨A, c, e, ho⟩ := one hk
    rw [e]
    refine ⟨Lo.of_own ho, ?_⟩
    have := hl r.rc (List.mem_map.2 ⟨r, List.mem_of_getElem? hk, rfl⟩)
    show r.rc.body.length ≤ _
    omega
  · obtain ⟨r, hk, rfl⟩ := bod_at he
    obtain ⟨A, c, e, ho⟩ := one hk
    rw [e] at hg
    exact ((Lo.of_own ho).blk hg).2.1
  · obtain ⟨r, hk, rfl⟩ := bod_at he
    obtain ⟨r', hk', rfl⟩ := bod_at he'
    obtain ⟨A, c, e, ho⟩ := one hk
    obtain ⟨A', c', e', ho'⟩ := one hk'
    rw [e] at hg
    rw [e'] at hg'
    have b1 : r.v.ownBlock = some g := by
      rcases blkO_own ho with h1 | h1
      · rw [e, ← h1]; exact hg
      · have h2 : blkO A c = some g := hg
        rw [h1] at h2; cases h2
    have b2 : r'.v.ownBlock = some g := by
      rcases blkO_own ho' with h1 | h1
      · rw [e', ← h1]; exact hg'
      · have h2 : blkO A' c' = some g := hg'
        rw [h1] at h2; cases h2
    exact h.pw k k' r r' g hk hk' b1 b2
theorem rc_row {w : World} {base c : Nat} {A : Option Addr} {K : List Rk} (h : RcOwn w base (.slice A K.length c) K) : RowT w 34 2 1 A (bodTv K) := by
  refine ⟨fun i x hx => ?_⟩
  obtain ⟨r, hk, rfl⟩ := bod_at hx
  have hlt := (List.getElem?_eq_some_iff.1 hk).1
  obtain ⟨q, cap', cur, hv, hb, hB, _, _, h1, h2⟩ := own_parts h.own (by omega)
  injection hv with hv _ _
  subst hv
  have ho := h.bod i r hk
  obtain ⟨bA, bc, e, hle, _⟩ := own_shape ho
  refine ⟨q, 0, rfl, hB.isT, ?_⟩
  rw [hB.cell, e]
  have h3 := rowsK_at hk 1 (by omega)
  rw [← h2, List.getElem?_take, if_pos (by omega), Array.getElem?_toList] at h3
  rw [Nat.zero_add, h3]
  show some r.v = _
  rw [e]
  rfl
/-- The writes that were handed out. -/
theorem wout_seg {w : World} {base n c : Nat} {A : Option Addr} {ws : List Wr} (h : WOut w base (.slice A n c) ws) (hl : ∀ x ∈ ws, x.bs.length ≤ 65536) : ∃ Ew : List Tv, Ew.length = n ∧ RowT w 94 3 2 A Ew ∧ Seg w base w.heap.size Ew ∧ ∃ xs, w.ownsRow 0 94 3 (.slice A n c) n xs := by
  rcases h with ⟨rfl, e⟩ | ⟨x, g1, A1, cap, rfl, e, hb, hB, ho⟩
  · injection e with e1 e2 e3
    subst e1 e2 e3
    exact ⟨[], rfl, ⟨fun i x h => by simp at h⟩, Seg.nil _ _ _, [], by simp, .inl ⟨rfl, rfl⟩⟩
  · injection e with e1 e2 e3
    subst e1 e2 e3
    have hlo := Lo.of_by ho
    have hx := hl x (by simp)
    refine ⟨[⟨A1, x.bs.length, cap⟩], rfl, ⟨fun i y hy => ?_⟩, ⟨fun k y hy => ?_, fun k y g hy hg => ?_, fun k k' y y' g hy hy' _ _ => ?_⟩, _, by simp, .inr ⟨g1, 1, _, rfl, Nat.zero_le _, hB, by omega, by simp [maxLen], by simp, rfl⟩⟩
    · match i, hy with
      | 0, hy =>
        simp only [List.getElem?_cons_zero, Option.some.injEq] at hy
        subst hy
        exact ⟨g1, 0, rfl, hB.isT, hB.cell 2⟩
      | i + 1, hy => simp at hy
    · match k, hy with
      | 0, hy =>
        simp only [List.getElem?_cons_zero, Option.some.injEq] at hy
        subst hy
        exact ⟨hlo, by show x.bs.length ≤ _; omega⟩
      | k + 1, hy => simp at hy
    · match k, hy with
      | 0, hy =>
        simp only [List.getElem?_cons_zero, Option.some.injEq] at hy
        subst hy
        exact (hlo.blk hg).2.1
      | k + 1, hy => simp at hy
    · match k, k', hy, hy' with
      | 0, 0, _, _ => rfl
      | 0, k' + 1, _, hy' => simp at hy'
      | k + 1, _, hy, _ => simp at hy
end Go.Proofs.YtpkdalpjfcopbaaDoor
