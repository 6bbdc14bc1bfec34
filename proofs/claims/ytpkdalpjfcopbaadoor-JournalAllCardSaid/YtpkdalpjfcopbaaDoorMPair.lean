/-
  JournalAll: a pair in memory: the program's journal and the document's, on one disk.
-/
import Derived.Test.YtpkdalpjfcopbaaDoorMOpensP
namespace Go.Proofs.YtpkdalpjfcopbaaDoor
open Go.RowKit
/-- What was of G, and what is new. -/
def Grow (G : Nat → Prop) (w w' : World) (k : Nat) : Prop := G k ∨ w.heap.size ≤ k ∧ k < w'.heap.size
structure PAt (w : World) (G : Nat → Prop) (pg jg kg : Nat) (Fk : Nat → Prop) (A0 : Option Addr) (c0 : Nat) (A1 : Option Addr) (c1 : Nat) (j : JP) (f : Fls) : Prop where
  blk : Blk w pg 108 #[.pointer (some ⟨jg, 0, none⟩), .pointer (some ⟨kg, 0, none⟩), .slice A0 f.a.length c0, .slice A1 f.b.length c1]
  pj : PJAt w jg j
  rj : RJAt w Fk kg j
  fk : ∀ k, Fk k → G k
  fj : ¬ Fk jg
  fp : ¬ Fk pg
  gj : G jg
  gp : G pg
  gs : ∀ k, G k → k < w.heap.size
  o0 : w.ownsRow 0 5 1 (.slice A0 f.a.length c0) f.a.length (bvs f.a)
  o1 : w.ownsRow 0 5 1 (.slice A1 f.b.length c1) f.b.length (bvs f.b)
  d0 : ∀ g, (Value.slice A0 f.a.length c0).ownBlock = some g → G g ∧ ¬ Fk g
  d1 : ∀ g, (Value.slice A1 f.b.length c1).ownBlock = some g → G g ∧ ¬ Fk g
/-- A pair whose journal and disk are these. -/
def POk (w : World) (G : Nat → Prop) (pg : Nat) (j : JP) (f : Fls) : Prop := ∃ jg kg Fk A0 c0 A1 c1, PAt w G pg jg kg Fk A0 c0 A1 c1 j f
theorem own_0 {w : World} {base : Nat} {e : TypeId} {size : Nat} {v : Value} {n : Nat} {xs : List Value} (h : w.ownsRow base e size v n xs) : w.ownsRow 0 e size v n xs := own_base h (Nat.zero_le _)
section
variable {w w' w2 : World} {G G' : Nat → Prop} {pg jg kg : Nat} {Fk : Nat → Prop} {A0 A1 : Option Addr} {c0 c1 : Nat} {j : JP} {f : Fls} {S : Nat → Prop}
theorem PAt.chg (h : PAt w G pg jg kg Fk A0 c0 A1 c1 j f) (hc : Chg S w w') (hS : ∀ k, G k → ¬ S k) : PAt w' G pg jg kg Fk A0 c0 A1 c1 j f :=
  ⟨h.blk.chg hc (hS _ h.gp), h.pj.chg hc (hS _ h.gj), h.rj.chg hc fun k _ hk => hS k (h.fk k hk), h.fk, h.fj, h.fp, h.gj, h.gp, fun k hk => Nat.lt_of_lt_of_le (h.gs k hk) hc.size,
    own_chg h.o0 hc fun g hg => hS g (h.d0 g hg).1, own_chg h.o1 hc fun g hg => hS g (h.d1 g hg).1, h.d0, h.d1⟩
theorem PAt.over (h : PAt w G pg jg kg Fk A0 c0 A1 c1 j f) (hb : Below w.heap.size w w') : PAt w' G pg jg kg Fk A0 c0 A1 c1 j f := h.chg (Chg.of_below hb (fun _ => False)) fun _ _ h => h
theorem PAt.mono (h : PAt w G pg jg kg Fk A0 c0 A1 c1 j f) (hG : ∀ k, G k → G' k) (hs : ∀ k, G' k → k < w.heap.size) : PAt w G' pg jg kg Fk A0 c0 A1 c1 j f :=
  ⟨h.blk, h.pj, h.rj, fun k hk => hG k (h.fk k hk), h.fj, h.fp, hG _ h.gj, hG _ h.gp, hs, h.o0, h.o1, fun g hg => ⟨hG _ (h.d0 g hg).1, (h.d0 g hg).2⟩, fun g hg => ⟨hG _ (h.d1 g hg).1, (h.d1 g hg).2⟩⟩
theorem POk.chg (h : POk w G pg j f) (hc : Chg S w w') (hS : ∀ k, G k → ¬ S k) : POk w' G pg j f := by
  obtain ⟨jg, kg, Fk, A0, c0, A1, c1, h⟩ := h
  exact ⟨jg, kg, Fk, A0, c0, A1, c1, h.chg hc hS⟩
theorem POk.mono (h : POk w G pg j f) (hG : ∀ k, G k → G' k) (hs : ∀ k, G' k → k < w.heap.size) : POk w G' pg j f := by
  obtain ⟨jg, kg, Fk, A0, c0, A1, c1, h⟩ := h
  exact ⟨jg, kg, Fk, A0, c0, A1, c1, h.mono hG hs⟩
theorem POk.gs (h : POk w G pg j f) : ∀ k, G k → k < w.heap.size := by
  obtain ⟨jg, kg, Fk, A0, c0, A1, c1, h⟩ := h
  exact h.gs
theorem grow_lt (hG : ∀ k, G k → k < w.heap.size) (hs : w.heap.size ≤ w'.heap.size) : ∀ k, Grow G w w' k → k < w'.heap.size := fun k hk => hk.elim (fun h => Nat.lt_of_lt_of_le (hG k h) hs) fun h => h.2
theorem grow_grow (h1 : w.heap.size ≤ w'.heap.size) (h2 : w'.heap.size ≤ w2.heap.size) : ∀ k, Grow (Grow G w w') w' w2 k → Grow G w w2 k := fun k hk => by
  rcases hk with (h | h) | h
  · exact .inl h
  · exact .inr ⟨h.1, by omega⟩
  · exact .inr ⟨by omega, h.2⟩
theorem PAt.lens (h : PAt w G pg jg kg Fk A0 c0 A1 c1 j f) : f.a.length ≤ c0 ∧ f.b.length ≤ c1 ∧ c0 ≤ maxLen ∧ c1 ≤ maxLen := by
  obtain ⟨_, _, e, h1, h2⟩ := own_shape h.o0
  obtain ⟨_, _, e', h3, h4⟩ := own_shape h.o1
  injection e with _ _ e
  injection e' with _ _ e'
  subst e e'
  exact ⟨h1, h3, h2, h4⟩
/-- The pair's new disk. -/
theorem PAt.disk (h : PAt w G pg jg kg Fk A0 c0 A1 c1 j f) {f2 : Fls} {B0 B1 : Option Addr} {e0 e1 : Nat} (hb : Below w.heap.size w w2) (o0 : w2.ownsRow w.heap.size 5 1 (.slice B0 f2.a.length e0) f2.a.length (bvs f2.a)) (o1 : w2.ownsRow w.heap.size 5 1 (.slice B1 f2.b.length e1) f2.b.length (bvs f2.b)) :
    PAt ((w2.setCell ⟨pg, 2, none⟩ (.slice B0 f2.a.length e0)).setCell ⟨pg, 3, none⟩ (.slice B1 f2.b.length e1)) (Grow G w w2) pg jg kg Fk B0 e0 B1 e1 j f2 ∧ Chg (fun k => k = pg) w ((w2.setCell ⟨pg, 2, none⟩ (.slice B0 f2.a.length e0)).setCell ⟨pg, 3, none⟩ (.slice B1 f2.b.length e1)) := by
  have hc : Chg (fun k => k = pg) w2 ((w2.setCell ⟨pg, 2, none⟩ (.slice B0 f2.a.length e0)).setCell ⟨pg, 3, none⟩ (.slice B1 f2.b.length e1)) := ((Chg.refl (fun k => k = pg) w2).setCell (p := ⟨pg, 2, none⟩) (.inl rfl) _).setCell (p := ⟨pg, 3, none⟩) (.inl rfl) _
  have h2 := h.over hb
  have hpj : jg ≠ pg := by
    obtain ⟨s, hB, _⟩ := h.pj.blk
    exact hB.ne_ h.blk (by decide)
  have hpl := h.gs _ h.gp
  refine ⟨⟨(h2.blk.set_ 2 _).set_ 3 _, h2.pj.chg hc hpj, h2.rj.chg hc fun k _ hk e => h.fp (e ▸ hk), fun k hk => .inl (h.fk k hk), h.fj, h.fp, .inl h.gj, .inl h.gp, fun k hk => Nat.lt_of_lt_of_le (grow_lt h.gs hb.size k hk) hc.size,
    own_chg (own_0 o0) hc fun g hg e => ?_, own_chg (own_0 o1) hc fun g hg e => ?_, fun g hg => ?_, fun g hg => ?_⟩, (Chg.of_below hb _).trans hc⟩
  · have := (own_block_lt o0 hg).2.1; omega
  · have := (own_block_lt o1 hg).2.1; omega
  · have h3 := own_block_lt o0 hg
    exact ⟨.inr ⟨h3.2.1, h3.1⟩, fun hk => by have := h.gs g (h.fk g hk); have := h3.2.1; omega⟩
  · have h3 := own_block_lt o1 hg
    exact ⟨.inr ⟨h3.2.1, h3.1⟩, fun hk => by have := h.gs g (h.fk g hk); have := h3.2.1; omega⟩
/-- The pair's new journals. -/
theorem PAt.jour (h : PAt w G pg jg kg Fk A0 c0 A1 c1 j f) {jg' kg' : Nat} {F' : Nat → Prop} {j' : JP} (hb : Below w.heap.size w w2) (hj : PJAt w2 jg' j') (hjg : w.heap.size ≤ jg') (hr : RJAt w2 F' kg' j') (hF : ∀ k, F' k → w.heap.size ≤ k ∧ k < w2.heap.size) (hFj : ¬ F' jg') :
    PAt ((w2.setCell ⟨pg, 0, none⟩ (.pointer (some ⟨jg', 0, none⟩))).setCell ⟨pg, 1, none⟩ (.pointer (some ⟨kg', 0, none⟩))) (Grow G w w2) pg jg' kg' F' A0 c0 A1 c1 j' f ∧ Chg (fun k => k = pg) w ((w2.setCell ⟨pg, 0, none⟩ (.pointer (some ⟨jg', 0, none⟩))).setCell ⟨pg, 1, none⟩ (.pointer (some ⟨kg', 0, none⟩))) := by
  have hc : Chg (fun k => k = pg) w2 ((w2.setCell ⟨pg, 0, none⟩ (.pointer (some ⟨jg', 0, none⟩))).setCell ⟨pg, 1, none⟩ (.pointer (some ⟨kg', 0, none⟩))) := ((Chg.refl (fun k => k = pg) w2).setCell (p := ⟨pg, 0, none⟩) (.inl rfl) _).setCell (p := ⟨pg, 1, none⟩) (.inl rfl) _
  have h2 := h.over hb
  have hpl := h.gs _ h.gp
  have off : ∀ {A : Option Addr} {n c : Nat} {xs : List Value}, w.ownsRow 0 5 1 (.slice A n c) n xs → ∀ g, (Value.slice A n c).ownBlock = some g → ¬ g = pg := fun ho g hg e => by
    obtain ⟨_, _, cur, hB⟩ := own_block_lt ho hg
    exact hB.ne_ h.blk (by decide) e
  refine ⟨⟨(h2.blk.set_ 0 _).set_ 1 _, hj.chg hc (fun e => by omega), hr.chg hc fun k _ hk e => by have := (hF k hk).1; omega, fun k hk => .inr (hF k hk), hFj, fun hk => by have := (hF _ hk).1; omega, .inr ⟨hjg, hj.lt⟩, .inl h.gp, fun k hk => Nat.lt_of_lt_of_le (grow_lt h.gs hb.size k hk) hc.size,
    own_chg h2.o0 hc (off h.o0), own_chg h2.o1 hc (off h.o1), fun g hg => ⟨.inl (h.d0 g hg).1, fun hk => ?_⟩, fun g hg => ⟨.inl (h.d1 g hg).1, fun hk => ?_⟩⟩, (Chg.of_below hb _).trans hc⟩
  · have := (hF g hk).1; have := h.gs g (h.d0 g hg).1; omega
  · have := (hF g hk).1; have := h.gs g (h.d1 g hg).1; omega
end
theorem open_cost {f : Fls} {j : JP} {recs : List Rc} {ws : List Wr} (h : openR f = .ok j recs ws) : costW ws ≤ 65537 := by
  have hf := (openR_fine h).1
  unfold openR at h
  have one : ∀ x : Wr, x.bs.length ≤ 65536 → costW [x] ≤ 65537 := fun x hx => by
    unfold costW Wr.cost
    simp only [List.map_cons, List.map_nil, List.sum_cons, List.sum_nil]
    repeat' split
    all_goals omega
  split at h
  · split at h
    · injection h with h1 h2 h3
      subst h3
      exact one _ (by simp [headB_length])
    · cases h
  · split at h
    · injection h with h1 h2 h3
      subst h3
      simp [costW]
    · split at h
      · cases h
      · injection h with h1 h2 h3
        subst h1 h2 h3
        exact one _ hf.len
theorem apD_len (ws : List Wr) (k : Int) (f : Fls) : (apD ws k f).a.length + (apD ws k f).b.length ≤ f.a.length + f.b.length + costW ws := by
  unfold apD
  split
  · rw [← apR_all ws _ f (Nat.le_refl _)]
    exact apR_len ws _ f
  · exact apR_len ws _ f
end Go.Proofs.YtpkdalpjfcopbaaDoor
